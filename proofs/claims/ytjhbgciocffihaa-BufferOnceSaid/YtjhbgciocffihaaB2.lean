-- written by gen.py out of walks texts of my own
import Derived.Test.YtjhbgciocffihaaB1
set_option linter.unusedVariables false
set_option linter.unusedSimpArgs false
set_option maxHeartbeats 4000000
namespace Go.Proofs.Ytjhbgciocffihaa
theorem kI : KeyOK Try.prog 2 ik := keyOK_int Try.underlying2
theorem valid_spec {e : Env} {w : World} {rs : List Part} (b : Nat) (s : BS) (vo : Value) (hB : BufMIn rs b s vo) (hT : Tot e w rs) : Spec Try.prog 46 #[.pointer (some ⟨b, 0, none⟩)] e w rs (fun v L => v = .bool true ∧ L = []) := by
  refine spec_body Try.func46 rfl Try.ntmps46 rfl rfl ?_
  intro a hf
  obtain ⟨br, bs, bt, mr, ms, mt, hrow, hMr, hMs, hMt, hM⟩ := hB
  refine wpIn_seq ?_
  -- region 0 (buffer.go:58)
  refine wp_reg ([]) ([] ++ rs) [(0, true)] mixed (by kernel_rfl) (hT) ?_; intro w hT
  refine rd hf rfl (yl_assign rfl) rfl rfl ?_; intro a hf
  refine plan_nil ?_
  refine wpIn_seq ?_
  -- region 1 (buffer.go:58)
  refine wp_reg ([]) ([] ++ rs) [(0, true), (1, true), (2, true), (3, true), (4, true), (5, true), (6, true), (7, true), (8, true), (9, true)] mixed (by kernel_rfl) (hT) ?_; intro w hT
  refine rd hf rfl (yl_move rfl) rfl rfl ?_; intro a hf
  refine rd hf rfl (yl_ptrNil rfl rfl Try.underlying25 rfl) rfl rfl ?_; intro a hf
  refine rd hf rfl (yl_move rfl) rfl rfl ?_; intro a hf
  refine rdT hf rfl rfl rfl rfl (rfl) (yl_move rfl) rfl (l' := [(6, _), (5, _), (4, _), (3, _), (2, _), (0, _)]) rfl ?_; intro a hf
  refine rdT hf rfl rfl rfl rfl (rfl) (yl_nil rfl) rfl (l' := [(7, _), (6, _), (5, _), (4, _), (3, _), (2, _), (0, _)]) rfl ?_; intro a hf
  refine rdT hf rfl rfl rfl rfl (rfl) (yl_faddr Try.underlying106 rfl rfl sz_29 (k := 4) rfl) rfl (l' := [(8, _), (7, _), (6, _), (5, _), (4, _), (3, _), (2, _), (0, _)]) rfl ?_; intro a hf
  refine rdT hf rfl rfl rfl rfl (rfl) (yl_load Try.underlying29 rfl rfl (hrow 4 _ rfl).app) rfl (l' := [(9, _), (8, _), (7, _), (6, _), (5, _), (4, _), (3, _), (2, _), (0, _)]) rfl ?_; intro a hf
  refine rdT hf rfl rfl rfl rfl (rfl) (yl_mapNil rfl rfl Try.underlying29 rfl) rfl (l' := [(10, _), (9, _), (8, _), (7, _), (6, _), (5, _), (4, _), (3, _), (2, _), (0, _)]) rfl ?_; intro a hf
  refine rd hf rfl (yl_pickTT rfl rfl rfl) rfl rfl ?_; intro a hf
  refine rw_ hf rfl (yl_assign rfl) rfl (l' := [(2, _), (11, _), (10, _), (9, _), (8, _), (7, _), (6, _), (5, _), (4, _), (3, _), (0, _)]) rfl ?_; intro a hf
  refine plan_nil ?_
  replace hf := hf.sel [2] (l' := [(2, _)]) rfl
  refine wpIn_ret ?_
  exact body_ret hf (L := []) hT rfl rfl ⟨rfl, rfl⟩
theorem bytes_spec {e : Env} {w : World} {rs : List Part} (b : Nat) (s : BS) (vo : Value) (hB : BufMIn rs b s vo) (id : Int) (h : Hld) (hh : fnd s.L id = some h) (hT : Tot e w rs) : Spec Try.prog 56 #[.pointer (some ⟨b, 0, none⟩), .int .i64 id] e w rs (fun v L => v = .int .i64 h.bytes ∧ L = []) := by
  refine spec_body Try.func56 rfl Try.ntmps56 rfl rfl ?_
  intro a hf
  obtain ⟨br, bs, bt, mr, ms, mt, hrow, hMr, hMs, hMt, hM⟩ := hB
  refine wpIn_seq ?_
  -- region 0 (buffer.go:75)
  refine wp_reg ([]) ([] ++ rs) [(0, true)] mixed (by kernel_rfl) (hT) ?_; intro w hT
  refine rd hf rfl (yl_assign rfl) rfl rfl ?_; intro a hf
  refine plan_nil ?_
  refine wpIn_seq ?_
  -- region 1 (buffer.go:76)
  refine wp_reg ([]) ([] ++ rs) [(0, true), (1, true), (2, true), (3, true), (4, true), (5, true), (6, false), (7, false)] mixed (by kernel_rfl) (hT) ?_; intro w hT
  refine rd hf rfl (yl_move rfl) rfl rfl ?_; intro a hf
  refine rd hf rfl (yl_nil rfl) rfl rfl ?_; intro a hf
  refine rd hf rfl (yl_faddr Try.underlying106 rfl rfl sz_29 (k := 4) rfl) rfl rfl ?_; intro a hf
  refine rd hf rfl (yl_load Try.underlying29 rfl rfl (hrow 4 _ rfl).app) rfl rfl ?_; intro a hf
  refine rd hf rfl (yl_move rfl) rfl rfl ?_; intro a hf
  refine rd hf rfl (yl_lookupE kI Try.underlying29 zr_31 rfl rfl hMr.app (show _ = encR h.r from by rw [hM.r, hh]; rfl)) rfl rfl ?_; intro a hf
  refine ef hf hT rfl rfl (ef_alloc zr_31) rfl (l' := [(11, _), (10, _), (9, _), (8, _), (7, _), (6, _), (4, _), (0, _), (1, _)]) rfl ?_; rintro a w v L ⟨b1, rfl, rfl⟩ hf hT
  refine efS hf hT rfl rfl (ef_storeW rfl rfl sz_31 rfl rfl rfl) ?_; rintro w L rfl hT
  refine plan_nil ?_
  replace hf := hf.sel [5, 0, 1] (l' := [(5, _), (0, _), (1, _)]) rfl
  refine wpIn_seq ?_
  refine wpIn_seq ?_
  -- region 2 (buffer.go:77)
  refine wp_reg ([]) ([_] ++ rs) [(0, true), (1, true), (2, true), (3, true), (4, true), (5, true), (6, true)] mixed (by kernel_rfl) (hT) ?_; intro w hT
  refine rd hf rfl (yl_move rfl) rfl rfl ?_; intro a hf
  refine rd hf rfl (yl_nil rfl) rfl rfl ?_; intro a hf
  refine rd hf rfl (yl_faddr Try.underlying106 rfl rfl sz_103 (k := 5) rfl) rfl rfl ?_; intro a hf
  refine rd hf rfl (yl_load Try.underlying103 rfl rfl (hrow 5 _ rfl).app) rfl rfl ?_; intro a hf
  refine rd hf rfl (yl_move rfl) rfl rfl ?_; intro a hf
  refine rd hf rfl (yl_lookupE kI Try.underlying103 zr_3 rfl rfl hMs.app (show _ = ik (if h.small then 1 else 0) from by rw [hM.s, hh]; simp only [Option.bind_some, Hld.sm]; cases h.small <;> rfl)) rfl rfl ?_; intro a hf
  refine rd hf rfl (yl_cmp rfl rfl rfl) rfl rfl ?_; intro a hf
  refine plan_nil ?_
  replace hf := hf.sel [18, 5] (l' := [(18, _), (5, _)]) rfl
  refine wp_ifd hf rfl (fun hs => ?_) (fun hs => ?_)
  · -- then
    refine wpIn_seq ?_
    -- region 3 (buffer.go:78)
    refine wp_reg ([]) ([_] ++ rs) [(0, true), (1, true), (2, true)] mixed (by kernel_rfl) (hT) ?_; intro w hT
    refine rd hf rfl (yl_faddr Try.underlying31 rfl rfl sz_2 (k := 4) rfl) rfl rfl ?_; intro a hf
    refine rd hf rfl (yl_load Try.underlying2 rfl rfl ⟨_, .head _, _, _, _, pt_self _ _, rfl⟩) rfl rfl ?_; intro a hf
    refine rd hf rfl (yl_assign rfl) rfl rfl ?_; intro a hf
    refine plan_nil ?_
    replace hf := hf.sel [4] (l' := [(4, _)]) rfl
    refine wpIn_ret ?_
    have hsm : h.small = true := by cases hq : h.small <;> simp_all
    exact body_ret hf (L := []) hT.tail rfl rfl ⟨by simp only [retv, Hld.bytes, hsm]; rfl, rfl⟩
  · -- else
    refine wpIn_skip ?_
    refine wpIn_seq ?_
    -- region 4 (buffer.go:80)
    refine wp_reg ([]) ([_] ++ rs) [(0, true), (1, true), (2, true)] mixed (by kernel_rfl) (hT) ?_; intro w hT
    refine rd hf rfl (yl_faddr Try.underlying31 rfl rfl sz_2 (k := 3) rfl) rfl rfl ?_; intro a hf
    refine rd hf rfl (yl_load Try.underlying2 rfl rfl ⟨_, .head _, _, _, _, pt_self _ _, rfl⟩) rfl rfl ?_; intro a hf
    refine rd hf rfl (yl_assign rfl) rfl rfl ?_; intro a hf
    refine plan_nil ?_
    replace hf := hf.sel [4] (l' := [(4, _)]) rfl
    refine wpIn_ret ?_
    have hsm : h.small = false := by cases hq : h.small <;> simp_all
    exact body_ret hf (L := []) hT.tail rfl rfl ⟨by simp only [retv, Hld.bytes, hsm]; rfl, rfl⟩
theorem Used_spec {e : Env} {w : World} {rs : List Part} (b : Nat) (s : BS) (hB : BufIn rs b s) (hT : Tot e w rs) : Spec Try.prog 20 #[.pointer (some ⟨b, 0, none⟩)] e w rs (fun v L => v = .int .i64 s.used ∧ L = []) := by
  refine spec_body Try.func20 rfl Try.ntmps20 rfl rfl ?_
  intro a hf
  obtain ⟨vo, hBm, hE⟩ := hB
  have hBm0 := hBm
  obtain ⟨br, bs, bt, mr, ms, mt, hrow, hMr, hMs, hMt, hM⟩ := hBm
  refine wpIn_seq ?_
  -- region 0 (buffer.go:208)
  refine wp_reg ([]) ([] ++ rs) [(0, true)] mixed (by kernel_rfl) (hT) ?_; intro w hT
  refine rd hf rfl (yl_assign rfl) rfl rfl ?_; intro a hf
  refine plan_nil ?_
  refine wpIn_seq ?_
  refine wpIn_seq ?_
  -- region 1 (buffer.go:209)
  refine wp_reg ([]) ([] ++ rs) [(0, true), (1, false), (2, true)] mixed (by kernel_rfl) (hT) ?_; intro w hT
  refine rd hf rfl (yl_move rfl) rfl rfl ?_; intro a hf
  refine ef_call hf rfl (wanted_none _ _ rfl) rfl rfl (by kernel_rfl) (Spec.frame (L2 := []) (valid_spec b s _ hBm0.app hT)) rfl (l' := [(3, _), (2, _), (0, _)]) rfl ?_; rintro a w v L ⟨L1, ⟨rfl, rfl⟩, rfl⟩ hf hT
  refine rd hf rfl (yl_not rfl) rfl rfl ?_; intro a hf
  refine plan_nil ?_
  replace hf := hf.sel [5, 0] (l' := [(5, _), (0, _)]) rfl
  refine wp_ifFF hf rfl (rfl) ?_
  refine wpIn_skip ?_
  refine wpIn_seq ?_
  -- region 3 (buffer.go:212)
  refine wp_reg ([]) ([] ++ rs) [(0, true), (1, true), (2, true), (3, true), (4, true)] mixed (by kernel_rfl) (hT) ?_; intro w hT
  refine rd hf rfl (yl_move rfl) rfl rfl ?_; intro a hf
  refine rd hf rfl (yl_nil rfl) rfl rfl ?_; intro a hf
  refine rd hf rfl (yl_faddr Try.underlying106 rfl rfl sz_2 (k := 1) rfl) rfl rfl ?_; intro a hf
  refine rd hf rfl (yl_load Try.underlying2 rfl rfl (hrow 1 _ rfl).app) rfl rfl ?_; intro a hf
  refine rd hf rfl (yl_assign rfl) rfl rfl ?_; intro a hf
  refine plan_nil ?_
  replace hf := hf.sel [2] (l' := [(2, _)]) rfl
  refine wpIn_ret ?_
  exact body_ret hf (L := []) hT rfl rfl ⟨rfl, rfl⟩
theorem Held_spec {e : Env} {w : World} {rs : List Part} (b : Nat) (s : BS) (hB : BufIn rs b s) (hnd : (ids s.L).Nodup) (hlen : s.L.length ≤ 1000) (hT : Tot e w rs) : Spec Try.prog 14 #[.pointer (some ⟨b, 0, none⟩)] e w rs (fun v L => ∃ X, Sl encHld 44 v s.L X ∧ L = [X]) := by
  refine spec_body Try.func14 rfl Try.ntmps14 rfl rfl ?_
  intro a hf
  obtain ⟨vo, hBm, hE⟩ := hB
  have hBm0 := hBm
  obtain ⟨br, bs, bt, mr, ms, mt, hrow, hMr, hMs, hMt, hM⟩ := hBm
  refine wpIn_seq ?_
  -- region 0 (buffer.go:192)
  refine wp_reg ([]) ([] ++ rs) [(0, true)] mixed (by kernel_rfl) (hT) ?_; intro w hT
  refine rd hf rfl (yl_assign rfl) rfl rfl ?_; intro a hf
  refine plan_nil ?_
  refine wpIn_seq ?_
  refine wpIn_seq ?_
  -- region 1 (buffer.go:193)
  refine wp_reg ([]) ([] ++ rs) [(0, true), (1, false), (2, true)] mixed (by kernel_rfl) (hT) ?_; intro w hT
  refine rd hf rfl (yl_move rfl) rfl rfl ?_; intro a hf
  refine ef_call hf rfl (wanted_none _ _ rfl) rfl rfl (by kernel_rfl) (Spec.frame (L2 := []) (valid_spec b s _ hBm0.app hT)) rfl (l' := [(9, _), (2, _), (0, _)]) rfl ?_; rintro a w v L ⟨L1, ⟨rfl, rfl⟩, rfl⟩ hf hT
  refine rd hf rfl (yl_not rfl) rfl rfl ?_; intro a hf
  refine plan_nil ?_
  replace hf := hf.sel [11, 0] (l' := [(11, _), (0, _)]) rfl
  refine wp_ifFF hf rfl (rfl) ?_
  refine wpIn_skip ?_
  refine wpIn_seq ?_
  -- region 3 (buffer.go:196)
  refine wp_reg ([]) ([] ++ rs) [(0, true)] mixed (by kernel_rfl) (hT) ?_; intro w hT
  refine rd hf rfl (yl_assign rfl) rfl rfl ?_; intro a hf
  refine plan_nil ?_
  refine wpIn_seq ?_
  refine wpIn_seq ?_
  -- region 4 (buffer.go:197)
  refine wp_reg ([]) ([] ++ rs) [(0, true), (1, true), (2, true), (3, true), (4, true), (5, true)] mixed (by kernel_rfl) (hT) ?_; intro w hT
  refine rd hf rfl (yl_move rfl) rfl rfl ?_; intro a hf
  refine rd hf rfl (yl_nil rfl) rfl rfl ?_; intro a hf
  refine rd hf rfl (yl_faddr Try.underlying106 rfl rfl sz_37 (k := 3) rfl) rfl rfl ?_; intro a hf
  refine rd hf rfl (yl_load Try.underlying37 rfl rfl (hrow 3 _ rfl).app) rfl rfl ?_; intro a hf
  refine rd hf rfl (yl_lenE rfl Try.underlying37 hE.app) rfl rfl ?_; intro a hf
  refine rd hf rfl (yl_move rfl) rfl rfl ?_; intro a hf
  refine plan_nil ?_
  replace hf := hf.sel [17, 16, 15, 3, 0] (l' := [(17, _), (16, _), (15, _), (3, _), (0, _)]) rfl
  refine wpIn_block ?_
  replace hT := hT.emp
  have hln : (ids s.L).length = s.L.length := by simp [ids]
  refine wp_loopS (σ := Nat × Value) (fun (k, q) => [(17, .int .i64 (k : Nat)), (3, q)]) [(16, _), (15, _), (0, _)] (fun (k, q) L => k ≤ s.L.length ∧ ∃ X, Sl encHld 44 q (s.L.take k) X ∧ L = [X]) (fun (k, q) => s.L.length - k) (0, .slice none 0 0) (L := [_]) (R := [] ++ rs) (hf.sel [17, 3, 16, 15, 0] rfl) (⟨Nat.zero_le _, _, sl_nil, rfl⟩) hT ?_
  clear hf hT; rintro ⟨k, q⟩ a w L hf ⟨hk, X, hS, rfl⟩ hT
  replace hf : Fr _ [(17, .int .i64 (k : Nat)), (3, q), (16, _), (15, _), (0, _)] _ _ := hf
  refine wpIn_seq ?_
  -- region 5 (buffer.go:197)
  refine wp_reg ([]) ([_] ++ rs) [(0, true)] mixed (by kernel_rfl) (hT) ?_; intro w hT
  refine rd hf rfl (yl_cmp rfl rfl rfl) rfl rfl ?_; intro a hf
  refine plan_nil ?_
  refine wpIn_seq ?_
  refine wp_ifd hf rfl (fun hlt => ?_) (fun hlt => ?_)
  · -- then
    have hlt' : k < s.L.length := by omega
    have hj : (ids s.L)[k]? = some s.L[k].r.id := by simp [ids, hlt']
    have hh : fnd s.L s.L[k].r.id = some s.L[k] := fnd_of_mem hnd (List.getElem_mem hlt')
    generalize hq : s.L[k] = h at hj hh
    refine wpIn_skip ?_
    refine wpIn_seq ?_
    refine wpIn_block ?_
    refine wpIn_seq ?_
    -- region 6 (buffer.go:197)
    refine wp_reg ([]) ([_] ++ rs) [(0, true), (1, true), (2, true)] mixed (by kernel_rfl) (hT) ?_; intro w hT
    refine rd hf rfl (yl_indexE rfl rfl Try.underlying37 sz_2 hE.app (by omega) (by omega)) rfl rfl ?_; intro a hf
    refine rd hf rfl (yl_load Try.underlying2 rfl rfl (hE.app.cell hj (f := 0) rfl)) rfl rfl ?_; intro a hf
    refine rd hf rfl (yl_assign rfl) rfl rfl ?_; intro a hf
    refine plan_nil ?_
    replace hf := hf.sel [5, 17, 3, 16, 15, 0] (l' := [(5, _), (17, _), (3, _), (16, _), (15, _), (0, _)]) rfl
    refine wpIn_seq ?_
    -- region 7 (buffer.go:198)
    refine wp_reg ([]) ([_] ++ rs) [(0, true), (1, true), (2, true), (3, true), (4, true), (5, true), (6, true), (7, true), (8, true), (9, true), (10, true), (11, true), (12, true), (13, true), (14, false), (15, false)] mixed (by kernel_rfl) (hT) ?_; intro w hT
    refine rd hf rfl (yl_move rfl) rfl rfl ?_; intro a hf
    refine rd hf rfl (yl_nil rfl) rfl rfl ?_; intro a hf
    refine rd hf rfl (yl_faddr Try.underlying106 rfl rfl sz_29 (k := 4) rfl) rfl rfl ?_; intro a hf
    refine rd hf rfl (yl_load Try.underlying29 rfl rfl (hrow 4 _ rfl).app) rfl rfl ?_; intro a hf
    refine rd hf rfl (yl_move rfl) rfl rfl ?_; intro a hf
    refine rd hf rfl (yl_lookupE kI Try.underlying29 zr_31 rfl rfl hMr.app (show _ = encR h.r from by rw [hM.r, hh]; rfl)) rfl rfl ?_; intro a hf
    refine rd hf rfl (yl_move rfl) rfl rfl ?_; intro a hf
    refine rd hf rfl (yl_nil rfl) rfl rfl ?_; intro a hf
    refine rd hf rfl (yl_faddr Try.underlying106 rfl rfl sz_103 (k := 5) rfl) rfl rfl ?_; intro a hf
    refine rd hf rfl (yl_load Try.underlying103 rfl rfl (hrow 5 _ rfl).app) rfl rfl ?_; intro a hf
    refine rd hf rfl (yl_move rfl) rfl rfl ?_; intro a hf
    refine rd hf rfl (yl_lookupE kI Try.underlying103 zr_3 rfl rfl hMs.app (show _ = ik (if h.small then 1 else 0) from by rw [hM.s, hh]; simp only [Option.bind_some, Hld.sm]; cases h.small <;> rfl)) rfl rfl ?_; intro a hf
    refine rd hf rfl (yl_cmp rfl rfl rfl) rfl rfl ?_; intro a hf
    refine rd hf rfl (yl_build rfl Try.underlying44 zr_44 (places := [(0, 5), (5, 1), (6, 1)]) (by kernel_rfl) (by kernel_rfl) (out := [.int .i64 h.r.id, .int .i64 h.r.cls, .int .i64 h.r.made, .int .i64 h.r.size, .int .i64 h.r.packed, .bool (decide (0 < (if h.small then (1 : Int) else 0))), .int .i64 (-1)]) rfl) rfl rfl ?_; intro a hf
    refine ef hf hT rfl rfl (ef_alloc zr_44) rfl (l' := [(34, _), (33, _), (32, _), (31, _), (30, _), (29, _), (28, _), (27, _), (26, _), (25, _), (24, _), (23, _), (22, _), (21, _), (5, _), (17, _), (3, _), (16, _), (15, _), (0, _)]) rfl ?_; rintro a w v L ⟨b1, rfl, rfl⟩ hf hT
    refine efS hf hT rfl rfl (ef_storeW rfl rfl sz_44 rfl rfl rfl) ?_; rintro w L rfl hT
    refine plan_nil ?_
    replace hf := hf.sel [6, 5, 17, 3, 16, 15, 0] (l' := [(6, _), (5, _), (17, _), (3, _), (16, _), (15, _), (0, _)]) rfl
    refine wpIn_seq ?_
    refine wpIn_seq ?_
    -- region 8 (buffer.go:199)
    refine wp_reg ([]) ([_, _] ++ rs) [(0, true), (1, true), (2, true), (3, true), (4, true), (5, true), (6, true), (7, true), (8, true), (9, true), (10, true)] mixed (by kernel_rfl) (hT) ?_; intro w hT
    refine rd hf rfl (yl_move rfl) rfl rfl ?_; intro a hf
    refine rd hf rfl (yl_nil rfl) rfl rfl ?_; intro a hf
    refine rd hf rfl (yl_faddr Try.underlying106 rfl rfl sz_104 (k := 6) rfl) rfl rfl ?_; intro a hf
    refine rd hf rfl (yl_load Try.underlying104 rfl rfl (hrow 6 _ rfl).app) rfl rfl ?_; intro a hf
    refine rd hf rfl (yl_move rfl) rfl rfl ?_; intro a hf
    refine rd hf rfl (yl_lookupOkE kI Try.underlying104 zr_2 rfl rfl hMt.app (show _ = ik (h.st.getD 0) from by rw [hM.t, hh]; simp only [Option.bind_some]; cases h.st <;> rfl) (show _ = h.st.isSome from by rw [hM.t, hh]; rfl)) rfl rfl ?_; intro a hf
    refine rd hf rfl (yl_move rfl) rfl rfl ?_; intro a hf
    refine rd hf rfl (yl_extract rfl rfl) rfl rfl ?_; intro a hf
    refine rd hf rfl (yl_extract rfl rfl) rfl rfl ?_; intro a hf
    refine rd hf rfl (yl_assign rfl) rfl rfl ?_; intro a hf
    refine rd hf rfl (yl_assign rfl) rfl rfl ?_; intro a hf
    refine plan_nil ?_
    replace hf := hf.sel [8, 7, 6, 17, 3, 16, 15, 0] (l' := [(8, _), (7, _), (6, _), (17, _), (3, _), (16, _), (15, _), (0, _)]) rfl
    refine wpIn_seq ?_
    -- region 9 (buffer.go:199)
    refine wp_reg ([]) ([_, _] ++ rs) [(0, true)] mixed (by kernel_rfl) (hT) ?_; intro w hT
    refine rd hf rfl (yl_move rfl) rfl rfl ?_; intro a hf
    refine plan_nil ?_
    refine wp_if hf rfl (fun hst => ?_) (fun hst => ?_)
    · -- then
      have hone : (⟨h.r, decide (0 < if h.small = true then (1 : Int) else 0), h.st.getD 0⟩ : Hld) = h := by obtain ⟨r, sm, st⟩ := h; cases sm <;> (simp [Hld.st] at hst ⊢; simp [hst])
      -- region 10 (buffer.go:200)
      refine wp_reg ([]) ([_, _] ++ rs) [(0, true), (1, true), (2, false)] mixed (by kernel_rfl) (hT) ?_; intro w hT
      refine rd hf rfl (yl_move rfl) rfl rfl ?_; intro a hf
      refine rd hf rfl (yl_faddr Try.underlying44 rfl rfl sz_2 (k := 6) rfl) rfl rfl ?_; intro a hf
      replace hT : Tot _ _ ([_] ++ ([_] ++ rs)) := hT.bring 0
      refine efS_last hf hT rfl rfl (by kernel_rfl) (ef_store rfl rfl sz_2 rfl rfl) ?_; rintro w L rfl hT
      replace hf := hf.sel [6, 17, 3, 16, 15, 0] (l' := [(6, _), (17, _), (3, _), (16, _), (15, _), (0, _)]) rfl
      -- region 11 (buffer.go:202)
      refine wp_reg ([_]) ([_] ++ rs) [(0, true), (1, true), (2, false), (3, false), (4, true)] mixed (by kernel_rfl) (hT.brings [1]) ?_; intro w hT
      refine rd hf rfl (yl_move rfl) rfl rfl ?_; intro a hf
      refine rd hf rfl (yl_loadB Try.underlying44 rfl sz_44 (.head _) rfl (pt_self _ _) rfl rfl) rfl rfl ?_; intro a hf
      refine ef hf hT rfl rfl (ef_buildSlice (E := encHld) (xs := [⟨h.r, decide (0 < if h.small = true then (1 : Int) else 0), h.st.getD 0⟩]) rfl rfl Try.underlying35 zs_44 rfl (by decide) rfl (by decide)) rfl (l' := [(48, _), (47, _), (6, _), (17, _), (3, _), (16, _), (15, _), (0, _)]) rfl ?_; rintro a w one L ⟨b2, p1, hvp1, hp1, rfl⟩ hf hT
      replace hT : Tot _ _ ([_, _] ++ ([_] ++ rs)) := hT.bring 1
      refine ef hf hT rfl rfl (ef_append (E := encHld) (L := [_]) rfl rfl Try.underlying35 zb_44 rfl hS (hp1.els (.tail _ (.head _))) (by simp; omega) (by simp [maxLen]; omega)) rfl (l' := [(49, _), (48, _), (47, _), (6, _), (17, _), (3, _), (16, _), (15, _), (0, _)]) rfl ?_; rintro a w vout L ⟨X1, hS1, rfl⟩ hf hT
      have hSn : Sl encHld 44 vout (s.L.take (k + 1)) X1 := by rw [List.take_succ_eq_append_getElem hlt', hq]; rw [hone] at hS1; exact hS1
      refine rw_ hf rfl (yl_assign rfl) rfl (l' := [(3, _), (50, _), (49, _), (48, _), (47, _), (6, _), (17, _), (16, _), (15, _), (0, _)]) rfl ?_; intro a hf
      refine plan_nil ?_
      replace hf := hf.sel [3, 17, 16, 15, 0] (l' := [(3, _), (17, _), (16, _), (15, _), (0, _)]) rfl
      -- region 12 (buffer.go:197)
      refine wp_reg ([]) ([_, _, _] ++ rs) [(0, true), (1, true)] mixed (by kernel_rfl) (hT) ?_; intro w hT
      refine rd hf rfl (yl_add rfl rfl (by unfold inI64; omega)) rfl rfl ?_; intro a hf
      refine rw_ hf rfl (yl_move rfl) rfl (l' := [(17, _), (51, _), (3, _), (16, _), (15, _), (0, _)]) rfl ?_; intro a hf
      refine plan_nil ?_
      exact ⟨(k + 1, _), _, hf.sel [17, 3, 16, 15, 0] rfl, ⟨by omega, _, hSn, rfl⟩, (hT.brings [2, 2]).tail.tail, by first | omega | (dsimp only; omega)⟩
    · -- else
      have hone : (⟨h.r, decide (0 < if h.small = true then (1 : Int) else 0), -1⟩ : Hld) = h := by obtain ⟨r, sm, st⟩ := h; cases sm <;> (simp [Hld.st] at hst ⊢; exact hst.symm)
      refine wpIn_skip ?_
      -- region 11 (buffer.go:202)
      refine wp_reg ([_]) ([_] ++ rs) [(0, true), (1, true), (2, false), (3, false), (4, true)] mixed (by kernel_rfl) (hT.brings [1]) ?_; intro w hT
      refine rd hf rfl (yl_move rfl) rfl rfl ?_; intro a hf
      refine rd hf rfl (yl_loadB Try.underlying44 rfl sz_44 (.head _) rfl (pt_self _ _) rfl rfl) rfl rfl ?_; intro a hf
      refine ef hf hT rfl rfl (ef_buildSlice (E := encHld) (xs := [⟨h.r, decide (0 < if h.small = true then (1 : Int) else 0), -1⟩]) rfl rfl Try.underlying35 zs_44 rfl (by decide) rfl (by decide)) rfl (l' := [(48, _), (47, _), (44, _), (8, _), (7, _), (6, _), (17, _), (3, _), (16, _), (15, _), (0, _)]) rfl ?_; rintro a w one L ⟨b3, p2, hvp2, hp2, rfl⟩ hf hT
      replace hT : Tot _ _ ([_, _] ++ ([_] ++ rs)) := hT.bring 1
      refine ef hf hT rfl rfl (ef_append (E := encHld) (L := [_]) rfl rfl Try.underlying35 zb_44 rfl hS (hp2.els (.tail _ (.head _))) (by simp; omega) (by simp [maxLen]; omega)) rfl (l' := [(49, _), (48, _), (47, _), (44, _), (8, _), (7, _), (6, _), (17, _), (3, _), (16, _), (15, _), (0, _)]) rfl ?_; rintro a w vout L ⟨X2, hS2, rfl⟩ hf hT
      have hSn : Sl encHld 44 vout (s.L.take (k + 1)) X2 := by rw [List.take_succ_eq_append_getElem hlt', hq]; rw [hone] at hS2; exact hS2
      refine rw_ hf rfl (yl_assign rfl) rfl (l' := [(3, _), (50, _), (49, _), (48, _), (47, _), (44, _), (8, _), (7, _), (6, _), (17, _), (16, _), (15, _), (0, _)]) rfl ?_; intro a hf
      refine plan_nil ?_
      replace hf := hf.sel [3, 17, 16, 15, 0] (l' := [(3, _), (17, _), (16, _), (15, _), (0, _)]) rfl
      -- region 12 (buffer.go:197)
      refine wp_reg ([]) ([_, _, _] ++ rs) [(0, true), (1, true)] mixed (by kernel_rfl) (hT) ?_; intro w hT
      refine rd hf rfl (yl_add rfl rfl (by unfold inI64; omega)) rfl rfl ?_; intro a hf
      refine rw_ hf rfl (yl_move rfl) rfl (l' := [(17, _), (51, _), (3, _), (16, _), (15, _), (0, _)]) rfl ?_; intro a hf
      refine plan_nil ?_
      exact ⟨(k + 1, _), _, hf.sel [17, 3, 16, 15, 0] rfl, ⟨by omega, _, hSn, rfl⟩, (hT.brings [2, 2]).tail.tail, by first | omega | (dsimp only; omega)⟩
  · -- else
    obtain rfl : k = s.L.length := by omega
    refine wpIn_exit ?_
    refine then_exit ?_
    refine then_exit ?_
    refine inBlock_hit ?_
    refine wpIn_seq ?_
    -- region 13 (buffer.go:204)
    refine wp_reg ([]) ([_] ++ rs) [(0, true), (1, true)] mixed (by kernel_rfl) (hT) ?_; intro w hT
    refine rd hf rfl (yl_move rfl) rfl rfl ?_; intro a hf
    refine rd hf rfl (yl_assign rfl) rfl rfl ?_; intro a hf
    refine plan_nil ?_
    replace hf := hf.sel [2] (l' := [(2, _)]) rfl
    refine wpIn_ret ?_
    exact body_ret hf (L := [_]) (hT) rfl rfl ⟨_, by simpa [retv] using hS, rfl⟩
theorem New_spec {e : Env} {w : World} {rs : List Part} (cap : Int) (hT : Tot e w rs) : Spec Try.prog 12 #[.int .i64 cap] e w rs (fun v L => if 1 ≤ cap ∧ cap ≤ 16777216 then ∃ b, v = .tuple #[.pointer (some ⟨b, 0, none⟩), .int .i64 0] ∧ BufR b ⟨cap, 0, 0, []⟩ L else v = .tuple #[.pointer none, .int .i64 3] ∧ L = []) := by
  refine spec_body Try.func12 rfl Try.ntmps12 rfl rfl ?_
  intro a hf
  refine wpIn_seq ?_
  -- region 0 (buffer.go:50)
  refine wp_reg ([]) ([] ++ rs) [(0, true), (1, true)] mixed (by kernel_rfl) (hT) ?_; intro w hT
  refine rd hf rfl (yl_assign rfl) rfl rfl ?_; intro a hf
  refine rd hf rfl (yl_assign rfl) rfl rfl ?_; intro a hf
  refine plan_nil ?_
  refine wpIn_seq ?_
  refine wpIn_seq ?_
  -- region 1 (buffer.go:51)
  refine wp_reg ([]) ([] ++ rs) [(0, true), (1, false)] mixed (by kernel_rfl) (hT) ?_; intro w hT
  refine rd hf rfl (yl_move rfl) rfl rfl ?_; intro a hf
  refine ef_call hf rfl (wanted_none _ _ rfl) rfl rfl (by kernel_rfl) (Spec.frame (L2 := []) (outside_spec _ _ _ hT)) rfl (l' := [(4, _), (3, _), (2, _), (0, _)]) rfl ?_; rintro a w v L ⟨L1, ⟨rfl, rfl⟩, rfl⟩ hf hT
  refine plan_nil ?_
  replace hf := hf.sel [5, 0] (l' := [(5, _), (0, _)]) rfl
  refine wp_ifd hf rfl (fun hbad => ?_) (fun hbad => ?_)
  · -- then
    refine wpIn_seq ?_
    -- region 2 (buffer.go:52)
    refine wp_reg ([]) ([] ++ rs) [(0, true), (1, true)] mixed (by kernel_rfl) (hT) ?_; intro w hT
    refine rd hf rfl (yl_assign rfl) rfl rfl ?_; intro a hf
    refine rd hf rfl (yl_assign rfl) rfl rfl ?_; intro a hf
    refine plan_nil ?_
    refine wpIn_ret ?_
    exact body_ret hf (L := []) hT rfl rfl (by rw [if_neg (by omega)]; exact ⟨rfl, rfl⟩)
  · -- else
    refine wpIn_skip ?_
    refine wpIn_seq ?_
    -- region 3 (buffer.go:54)
    refine wp_reg ([]) ([] ++ rs) [(0, true), (1, false), (2, false), (3, false), (4, true), (5, false), (6, true), (7, true)] mixed (by kernel_rfl) (hT) ?_; intro w hT
    refine rd hf rfl (yl_move rfl) rfl rfl ?_; intro a hf
    refine ef hf hT rfl rfl ef_makeMap rfl (l' := [(6, _), (5, _), (0, _)]) rfl ?_; rintro a w v L ⟨m1, rfl, rfl⟩ hf hT
    have hqm1 := mapL_new (encK := ik) (encV := encR) m1
    refine ef hf hT rfl rfl ef_makeMap rfl (l' := [(7, _), (6, _), (5, _), (0, _)]) rfl ?_; rintro a w v L ⟨m2, rfl, rfl⟩ hf hT
    have hqm2 := mapL_new (encK := ik) (encV := ik) m2
    refine ef hf hT rfl rfl ef_makeMap rfl (l' := [(8, _), (7, _), (6, _), (5, _), (0, _)]) rfl ?_; rintro a w v L ⟨m3, rfl, rfl⟩ hf hT
    have hqm3 := mapL_new (encK := ik) (encV := ik) m3
    refine rd hf rfl (yl_build rfl Try.underlying106 zr_106 (places := [(0, 1), (1, 1), (2, 1), (3, 1), (4, 1), (5, 1), (6, 1)]) (by kernel_rfl) (by kernel_rfl) (out := bufCells ⟨cap, 0, 0, []⟩ (.slice none 0 0) m1 m2 m3) rfl) rfl rfl ?_; intro a hf
    refine ef hf hT rfl rfl (ef_box rfl) rfl (l' := [(10, _), (9, _), (8, _), (7, _), (6, _), (5, _), (0, _)]) rfl ?_; rintro a w v L ⟨b1, rfl, rfl⟩ hf hT
    refine rd hf rfl (yl_assign rfl) rfl rfl ?_; intro a hf
    refine rd hf rfl (yl_assign rfl) rfl rfl ?_; intro a hf
    refine plan_nil ?_
    replace hf := hf.sel [3, 2] (l' := [(3, _), (2, _)]) rfl
    refine wpIn_ret ?_
    replace hT := hT.emp
    refine body_ret hf (L := [_, _, _, _, _]) ((hT.brings [2, 3, 4, 4, 4])) rfl rfl ?_
    rw [if_pos (by omega)]
    exact ⟨b1, rfl, _, _, _, rfl, sl_nil, m1, _, m2, _, m3, _, _, _, _, rfl, hqm1, hqm2, hqm3, ⟨fun _ => rfl, fun _ => rfl, fun _ => rfl⟩⟩
theorem remove_spec {e : Env} {w : World} {rs : List Part} (b : Nat) (s : BS) (vo : Value) (Lb : List Part) (hB : BufM b s vo Lb) (id : Int) (h : Hld) (hh : fnd s.L id = some h) (hb : inI64 (s.used - h.bytes)) (hT : Tot e w (Lb ++ rs)) : Spec Try.prog 53 #[.pointer (some ⟨b, 0, none⟩), .int .i64 id] e w rs (fun v L => ∃ Lb', BufM b { s with used := s.used - h.bytes, L := s.L.filter fun x => decide (x.r.id ≠ id) } vo Lb' ∧ L = Lb') := by
  refine spec_body Try.func53 rfl Try.ntmps53 rfl rfl ?_
  intro a hf
  have hB0 := hB
  obtain ⟨br, xr, bs, xs, bt, xt, mr, ms, mt, rfl, hMr, hMs, hMt, hM⟩ := hB
  refine wpIn_seq ?_
  -- region 0 (buffer.go:85)
  refine wp_reg ([]) ([_, _, _, _] ++ rs) [(0, true), (1, true), (2, true), (3, true), (4, true), (5, true), (6, false), (7, true), (8, true), (9, true), (10, false)] mixed (by kernel_rfl) (hT) ?_; intro w hT
  refine rd hf rfl (yl_move rfl) rfl rfl ?_; intro a hf
  refine rd hf rfl (yl_nil rfl) rfl rfl ?_; intro a hf
  refine rd hf rfl (yl_faddr Try.underlying106 rfl rfl sz_2 (k := 1) rfl) rfl rfl ?_; intro a hf
  refine rd hf rfl (yl_load Try.underlying2 rfl rfl ⟨_, .head _, _, _, _, pt_self _ _, rfl⟩) rfl rfl ?_; intro a hf
  refine rd hf rfl (yl_move rfl) rfl rfl ?_; intro a hf
  refine rd hf rfl (yl_move rfl) rfl rfl ?_; intro a hf
  refine ef_call hf rfl (wanted_none _ _ rfl) rfl rfl (by kernel_rfl) (Spec.frame (L2 := []) (bytes_spec b s vo (hB0.inn (fun x hx => List.mem_append_left _ hx)) id h hh hT)) rfl (l' := [(9, _), (8, _), (7, _), (6, _), (5, _), (4, _), (0, _), (1, _)]) rfl ?_; rintro a w v L ⟨L1, ⟨rfl, rfl⟩, rfl⟩ hf hT
  refine rd hf rfl (yl_sub rfl rfl hb) rfl rfl ?_; intro a hf
  refine rd hf rfl (yl_nil rfl) rfl rfl ?_; intro a hf
  refine rd hf rfl (yl_faddr Try.underlying106 rfl rfl sz_2 (k := 1) rfl) rfl rfl ?_; intro a hf
  replace hT : Tot _ _ ([_] ++ ([_, _, _] ++ rs)) := hT.bring 0
  refine efS_last hf hT rfl rfl (by kernel_rfl) (ef_store rfl rfl sz_2 rfl rfl) ?_; rintro w L rfl hT
  replace hf := hf.sel [0, 1] (l' := [(0, _), (1, _)]) rfl
  refine wpIn_seq ?_
  -- region 1 (buffer.go:86)
  refine wp_reg ([]) ([_, _, _, _] ++ rs) [(0, true), (1, true), (2, true), (3, true), (4, true), (5, false)] mixed (by kernel_rfl) (hT) ?_; intro w hT
  refine rd hf rfl (yl_move rfl) rfl rfl ?_; intro a hf
  refine rd hf rfl (yl_nil rfl) rfl rfl ?_; intro a hf
  refine rd hf rfl (yl_faddr Try.underlying106 rfl rfl sz_29 (k := 4) rfl) rfl rfl ?_; intro a hf
  refine rd hf rfl (yl_load Try.underlying29 rfl rfl ⟨_, .head _, _, _, _, pt_self _ _, rfl⟩) rfl rfl ?_; intro a hf
  refine rd hf rfl (yl_move rfl) rfl rfl ?_; intro a hf
  replace hT : Tot _ _ ([_] ++ ([_, _, _] ++ rs)) := hT.bring 1
  refine efN_last hf hT rfl rfl (by kernel_rfl) (ef_delete kI Try.underlying29 rfl rfl hMr) ?_; rintro w v L ⟨M1, hM1, rfl⟩ hT
  replace hf := hf.sel [0, 1] (l' := [(0, _), (1, _)]) rfl
  refine wpIn_seq ?_
  -- region 2 (buffer.go:87)
  refine wp_reg ([]) ([_, _, _, _] ++ rs) [(0, true), (1, true), (2, true), (3, true), (4, true), (5, false)] mixed (by kernel_rfl) (hT) ?_; intro w hT
  refine rd hf rfl (yl_move rfl) rfl rfl ?_; intro a hf
  refine rd hf rfl (yl_nil rfl) rfl rfl ?_; intro a hf
  refine rd hf rfl (yl_faddr Try.underlying106 rfl rfl sz_103 (k := 5) rfl) rfl rfl ?_; intro a hf
  refine rd hf rfl (yl_load Try.underlying103 rfl rfl ⟨_, .tail _ (.head _), _, _, _, pt_self _ _, rfl⟩) rfl rfl ?_; intro a hf
  refine rd hf rfl (yl_move rfl) rfl rfl ?_; intro a hf
  replace hT : Tot _ _ ([_] ++ ([_, _, _] ++ rs)) := hT.bring 2
  refine efN_last hf hT rfl rfl (by kernel_rfl) (ef_delete kI Try.underlying103 rfl rfl hMs) ?_; rintro w v L ⟨M2, hM2, rfl⟩ hT
  replace hf := hf.sel [0, 1] (l' := [(0, _), (1, _)]) rfl
  -- region 3 (buffer.go:88)
  refine wp_reg ([]) ([_, _, _, _] ++ rs) [(0, true), (1, true), (2, true), (3, true), (4, true), (5, false)] mixed (by kernel_rfl) (hT) ?_; intro w hT
  refine rd hf rfl (yl_move rfl) rfl rfl ?_; intro a hf
  refine rd hf rfl (yl_nil rfl) rfl rfl ?_; intro a hf
  refine rd hf rfl (yl_faddr Try.underlying106 rfl rfl sz_104 (k := 6) rfl) rfl rfl ?_; intro a hf
  refine rd hf rfl (yl_load Try.underlying104 rfl rfl ⟨_, .tail _ (.tail _ (.head _)), _, _, _, pt_self _ _, rfl⟩) rfl rfl ?_; intro a hf
  refine rd hf rfl (yl_move rfl) rfl rfl ?_; intro a hf
  replace hT : Tot _ _ ([_] ++ ([_, _, _] ++ rs)) := hT.bring 3
  refine efN_last hf hT rfl rfl (by kernel_rfl) (ef_delete kI Try.underlying104 rfl rfl hMt) ?_; rintro w v L ⟨M3, hM3, rfl⟩ hT
  replace hf := hf.sel [] (l' := []) rfl
  exact body_end hf (L := [_, _, _, _]) ((hT.brings [0, 1, 2, 3])) rfl rfl ⟨_, ⟨br, _, bs, _, bt, _, _, _, _, rfl, hM1, hM2, hM3, hM.del id⟩, rfl⟩
end Go.Proofs.Ytjhbgciocffihaa
