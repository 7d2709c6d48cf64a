-- written by gen.py out of walks texts of my own
import Derived.Test.YtjhbgciocffihaaB24
set_option linter.unusedVariables false
set_option linter.unusedSimpArgs false
set_option maxHeartbeats 4000000
namespace Go.Proofs.Ytjhbgciocffihaa
def AckRes (S : List Sp) (s s' : BS) (n : Int) : Prop := (setE S ≠ 0 ∧ s' = s ∧ n = 0) ∨ (setE S = 0 ∧ s' = ackTo S s s.L.length ∧ n = (s.L.length : Nat) - (s'.L.length : Nat))
theorem ackTo_all (S : List Sp) (s : BS) : (ackTo S s s.L.length).L = s.L.filter fun h => !inS S h.r.id := by simp [ackTo]
theorem Ack_spec {e : Env} {w : World} {rs : List Part} (b : Nat) (s : BS) (Lb : List Part) (hB : BufR b s Lb) (hI : Inv s) (hlen : s.L.length ≤ 256) (S : List Sp) (sv : Value) (hE : Els encSp rs sv S) (hT : Tot e w (Lb ++ rs)) : Spec Try.prog 26 #[.pointer (some ⟨b, 0, none⟩), sv] e w rs (fun v L => ∃ s' n Lb', v = .tuple #[.int .i64 n, .int .i64 (setE S)] ∧ BufR b s' Lb' ∧ L = Lb' ∧ AckRes S s s' n) := by
  refine spec_body Try.func26 rfl Try.ntmps26 rfl rfl ?_
  intro a hf
  obtain ⟨sA, sc, rfl, hsA, hsl⟩ := hE.shape
  obtain ⟨vo, X, L4, rfl, hS, hB⟩ := hB
  have hB0 := hB
  obtain ⟨br, xr, bs, xs, bt, xt, mr, ms, mt, rfl, hMr, hMs, hMt, hM⟩ := hB
  refine wpIn_seq ?_
  -- region 0 (buffer.go:173)
  refine wp_reg ([]) ([_, _, _, _, _] ++ rs) [(0, false), (1, false), (2, true), (3, true)] mixed (by kernel_rfl) (hT) ?_; intro w hT
  refine ef hf hT rfl rfl (ef_box rfl) rfl (l' := [(0, _), (1, _)]) rfl ?_; rintro a w v L ⟨b1, rfl, rfl⟩ hf hT
  refine ef hf hT rfl rfl (ef_box rfl) rfl (l' := [(2, _), (0, _), (1, _)]) rfl ?_; rintro a w v L ⟨b2, rfl, rfl⟩ hf hT
  refine rd hf rfl (yl_assign rfl) rfl rfl ?_; intro a hf
  refine rd hf rfl (yl_assign rfl) rfl rfl ?_; intro a hf
  refine plan_nil ?_
  replace hf := hf.sel [3, 2] (l' := [(3, _), (2, _)]) rfl
  refine wpIn_seq ?_
  refine wpIn_seq ?_
  -- region 1 (buffer.go:174)
  refine wp_reg ([]) ([_, _, _, _, _, _, _] ++ rs) [(0, true), (1, false), (2, true)] mixed (by kernel_rfl) (hT) ?_; intro w hT
  refine rd hf rfl (yl_load Try.underlying25 rfl rfl ⟨_, .tail _ (.head _), _, _, _, pt_self _ _, rfl⟩) rfl rfl ?_; intro a hf
  refine ef_call hf rfl (wanted_none _ _ rfl) rfl rfl (by kernel_rfl) (Spec.frame (L2 := []) (valid_spec b s vo (hB0.inn (fun x hx => by rcases mem4 hx with rfl | rfl | rfl | rfl; exact .tail _ (.tail _ (.tail _ (.head _))); exact .tail _ (.tail _ (.tail _ (.tail _ (.head _)))); exact .tail _ (.tail _ (.tail _ (.tail _ (.tail _ (.head _))))); exact .tail _ (.tail _ (.tail _ (.tail _ (.tail _ (.tail _ (.head _)))))))) hT)) rfl (l' := [(8, _), (3, _), (2, _)]) rfl ?_; rintro a w v L ⟨L1, ⟨rfl, rfl⟩, rfl⟩ hf hT
  refine rd hf rfl (yl_not rfl) rfl rfl ?_; intro a hf
  refine plan_nil ?_
  refine wp_ifFF hf rfl (rfl) ?_
  refine wpIn_skip ?_
  refine wpIn_seq ?_
  refine wpIn_seq ?_
  -- region 3 (buffer.go:177)
  refine wp_reg ([]) ([_, _, _, _, _, _, _] ++ rs) [(0, true), (1, false), (2, true)] mixed (by kernel_rfl) (hT) ?_; intro w hT
  refine rd hf rfl (yl_load Try.underlying58 rfl rfl ⟨_, .head _, _, _, _, pt_self _ _, rfl⟩) rfl rfl ?_; intro a hf
  refine ef_call hf rfl (wanted_none _ _ rfl) rfl rfl (by kernel_rfl) (Spec.frame (L2 := []) (CheckSet_spec S _ hE.app hT)) rfl (l' := [(11, _), (10, _), (9, _), (8, _), (3, _), (2, _)]) rfl ?_; rintro a w v L ⟨L1, ⟨rfl, rfl⟩, rfl⟩ hf hT
  refine rd hf rfl (yl_assign rfl) rfl rfl ?_; intro a hf
  refine plan_nil ?_
  replace hf := hf.sel [6, 3, 2] (l' := [(6, _), (3, _), (2, _)]) rfl
  refine wpIn_seq ?_
  -- region 4 (buffer.go:177)
  refine wp_reg ([]) ([_, _, _, _, _, _, _] ++ rs) [(0, true), (1, true)] mixed (by kernel_rfl) (hT) ?_; intro w hT
  refine rd hf rfl (yl_move rfl) rfl rfl ?_; intro a hf
  refine rd hf rfl (yl_cmp rfl rfl rfl) rfl rfl ?_; intro a hf
  refine plan_nil ?_
  refine wp_ifd hf rfl (fun hne => ?_) (fun hne => ?_)
  · -- then
    refine wpIn_seq ?_
    -- region 5 (buffer.go:178)
    refine wp_reg ([]) ([_, _, _, _, _, _, _] ++ rs) [(0, true), (1, true), (2, true)] mixed (by kernel_rfl) (hT) ?_; intro w hT
    refine rd hf rfl (yl_move rfl) rfl rfl ?_; intro a hf
    refine rd hf rfl (yl_assign rfl) rfl rfl ?_; intro a hf
    refine rd hf rfl (yl_assign rfl) rfl rfl ?_; intro a hf
    refine plan_nil ?_
    replace hf := hf.sel [5, 4] (l' := [(5, _), (4, _)]) rfl
    refine wpIn_ret ?_
    exact body_ret hf (L := [_, _, _, _, _]) ((hT.brings [1, 1]).tail.tail) rfl rfl ⟨s, 0, _, rfl, ⟨vo, _, _, rfl, hS, hB0⟩, rfl, .inl ⟨hne, rfl, rfl⟩⟩
  · -- else
    have h0 : setE S = 0 := by omega
    have hln0 : (ids s.L).length = s.L.length := by simp [ids]
    have hal := ackTo_len S s s.L.length
    refine wpIn_skip ?_
    refine wpIn_seq ?_
    -- region 6 (buffer.go:180)
    refine wp_reg ([]) ([_, _, _, _, _, _, _] ++ rs) [(0, true), (1, true), (2, true), (3, true), (4, true), (5, true)] mixed (by kernel_rfl) (hT) ?_; intro w hT
    refine rd hf rfl (yl_load Try.underlying25 rfl rfl ⟨_, .tail _ (.head _), _, _, _, pt_self _ _, rfl⟩) rfl rfl ?_; intro a hf
    refine rd hf rfl (yl_nil rfl) rfl rfl ?_; intro a hf
    refine rd hf rfl (yl_faddr Try.underlying106 rfl rfl sz_37 (k := 3) rfl) rfl rfl ?_; intro a hf
    refine rd hf rfl (yl_load Try.underlying37 rfl rfl ⟨_, .tail _ (.tail _ (.tail _ (.head _))), _, _, _, pt_self _ _, rfl⟩) rfl rfl ?_; intro a hf
    refine rd hf rfl (yl_lenE rfl Try.underlying37 (hS.els (.tail _ (.tail _ (.head _))))) rfl rfl ?_; intro a hf
    refine rd hf rfl (yl_assign rfl) rfl rfl ?_; intro a hf
    refine plan_nil ?_
    replace hf := hf.sel [7, 3, 2] (l' := [(7, _), (3, _), (2, _)]) rfl
    refine wpIn_seq ?_
    -- region 7 (buffer.go:181)
    refine wp_reg ([_, _, _, _, _]) ([_, _] ++ rs) [(0, true), (1, true), (2, true), (3, true), (5, true), (4, false), (6, false), (7, true), (8, true), (9, false)] mixed (by kernel_rfl) (hT.brings [6, 6, 6, 6, 6]) ?_; intro w hT
    refine rd hf rfl (yl_load Try.underlying25 rfl rfl ⟨_, .tail _ (.head _), _, _, _, pt_self _ _, rfl⟩) rfl rfl ?_; intro a hf
    refine rd hf rfl (yl_load Try.underlying25 rfl rfl ⟨_, .tail _ (.head _), _, _, _, pt_self _ _, rfl⟩) rfl rfl ?_; intro a hf
    refine rd hf rfl (yl_nil rfl) rfl rfl ?_; intro a hf
    refine rd hf rfl (yl_faddr Try.underlying106 rfl rfl sz_37 (k := 3) rfl) rfl rfl ?_; intro a hf
    refine rd hf rfl (yl_func rfl) rfl rfl ?_; intro a hf
    refine ef hf hT rfl rfl (ef_read (yl_load Try.underlying37 rfl rfl ⟨_, .tail _ (.head _), _, _, _, pt_self _ _, rfl⟩)) rfl (l' := [(26, _), (24, _), (23, _), (22, _), (21, _), (7, _), (3, _), (2, _)]) rfl ?_; rintro a w v L ⟨rfl, rfl⟩ hf hT
    replace hT : Tot _ _ ([_, _, _, _, _] ++ ([_, _] ++ rs)) := hT.bring 4
    replace hT : Tot _ _ ([_, _, _, _, _] ++ ([_, _] ++ rs)) := hT.bring 4
    replace hT : Tot _ _ ([_, _, _, _, _] ++ ([_, _] ++ rs)) := hT.bring 4
    replace hT : Tot _ _ ([_, _, _, _, _] ++ ([_, _] ++ rs)) := hT.bring 4
    replace hT : Tot _ _ ([_, _, _, _, _] ++ ([_, _] ++ rs)) := hT.bring 4
    refine ef_call hf rfl (wanted_none _ _ rfl) rfl rfl (by kernel_rfl) (Spec.frame (L2 := []) (DeleteAck_spec b2 b1 b s vo _ _ hB0 hI hlen S hE.app h0 (RowIn.of_block (.head _) (pt_self _ _) (fun j hj => by simp at hj; obtain rfl : j = 0 := (by omega); rfl)) (RowIn.of_block (.tail _ (.head _)) (pt_self _ _) (fun j hj => by simp at hj; obtain rfl : j = 0 := (by omega); rfl)) vo X hS hT)) rfl (l' := [(25, _), (26, _), (24, _), (23, _), (22, _), (21, _), (7, _), (3, _), (2, _)]) rfl ?_; rintro a w vn L ⟨L1, ⟨XN, Lb3, hSN, hB3, rfl⟩, rfl⟩ hf hT
    obtain ⟨br, xr, bs, xs, bt, xt, mr, ms, mt, rfl, hMr, hMs, hMt, hM⟩ := hB3
    have hB4 : BufM b (ackTo S s s.L.length) vn [_, _, _, _] := ⟨br, _, bs, _, bt, _, _, _, _, rfl, hMr, hMs, hMt, hM⟩
    have hlnN : (ids (ackTo S s s.L.length).L).length = (ackTo S s s.L.length).L.length := by simp [ids]
    refine rd hf rfl (yl_nil rfl) rfl rfl ?_; intro a hf
    refine rd hf rfl (yl_faddr Try.underlying106 rfl rfl sz_37 (k := 3) rfl) rfl rfl ?_; intro a hf
    replace hT : Tot _ _ ([_, _, _, _, _] ++ ([_, _] ++ rs)) := hT.bring 1
    refine efS hf hT rfl rfl (ef_store rfl rfl sz_37 hSN.one rfl) ?_; rintro w L rfl hT
    refine plan_nil ?_
    replace hf := hf.sel [7, 2] (l' := [(7, _), (2, _)]) rfl
    refine wpIn_seq ?_
    -- region 8 (buffer.go:188)
    refine wp_reg ([]) ([_, _, _, _, _, _, _] ++ rs) [(0, true), (1, true), (2, true), (3, true), (4, true), (5, true), (6, true), (7, true), (8, true)] mixed (by kernel_rfl) (hT) ?_; intro w hT
    refine rd hf rfl (yl_move rfl) rfl rfl ?_; intro a hf
    refine rd hf rfl (yl_load Try.underlying25 rfl rfl ⟨_, .tail _ (.tail _ (.tail _ (.tail _ (.tail _ (.tail _ (.head _)))))), _, _, _, pt_self _ _, rfl⟩) rfl rfl ?_; intro a hf
    refine rd hf rfl (yl_nil rfl) rfl rfl ?_; intro a hf
    refine rd hf rfl (yl_faddr Try.underlying106 rfl rfl sz_37 (k := 3) rfl) rfl rfl ?_; intro a hf
    refine rd hf rfl (yl_load Try.underlying37 rfl rfl ⟨_, .head _, _, _, _, pt_self _ _, rfl⟩) rfl rfl ?_; intro a hf
    refine rd hf rfl (yl_lenE rfl Try.underlying37 (hSN.els (.tail _ (.head _)))) rfl rfl ?_; intro a hf
    refine rd hf rfl (yl_sub rfl rfl (by unfold inI64; omega)) rfl rfl ?_; intro a hf
    refine rd hf rfl (yl_assign rfl) rfl rfl ?_; intro a hf
    refine rd hf rfl (yl_assign rfl) rfl rfl ?_; intro a hf
    refine plan_nil ?_
    replace hf := hf.sel [5, 4] (l' := [(5, _), (4, _)]) rfl
    refine wpIn_ret ?_
    exact body_ret hf (L := [_, _, _, _, _]) (((hT.brings [6, 6]).tail.tail.brings [4, 4, 4, 3, 4])) rfl rfl ⟨ackTo S s s.L.length, _, _, (by rw [h0]; rfl), ⟨vn, _, _, rfl, hSN, hB4⟩, rfl, .inr ⟨h0, rfl, by rw [hln0, hlnN]⟩⟩
theorem rAck_spec {e : Env} {w : World} {rs : List Part} (b : Nat) (s : BS) (Lb : List Part) (hB : RB b s.cap s.time s.L Lb) (hlen : s.L.length ≤ 256) (S : List Sp) (sv : Value) (hE : Els encSp rs sv S) (hT : Tot e w (Lb ++ rs)) : Spec Try.prog 27 #[.pointer (some ⟨b, 0, none⟩), sv] e w rs (fun v L => ∃ s' n Lb', v = .tuple #[.int .i64 n, .int .i64 (setE S)] ∧ RB b s'.cap s'.time s'.L Lb' ∧ L = Lb' ∧ AckRes S s s' n) := by
  refine spec_body Try.func27 rfl Try.ntmps27 rfl rfl ?_
  intro a hf
  obtain ⟨lv, X, rfl, hS⟩ := hB
  refine wpIn_seq ?_
  -- region 0 (ref.go:131)
  refine wp_reg ([]) ([_, _] ++ rs) [(0, true), (1, true)] mixed (by kernel_rfl) (hT) ?_; intro w hT
  refine rd hf rfl (yl_assign rfl) rfl rfl ?_; intro a hf
  refine rd hf rfl (yl_assign rfl) rfl rfl ?_; intro a hf
  refine plan_nil ?_
  refine wpIn_seq ?_
  -- region 1 (ref.go:132)
  refine wp_reg ([]) ([_, _] ++ rs) [(0, true), (1, false), (2, true)] mixed (by kernel_rfl) (hT) ?_; intro w hT
  refine rd hf rfl (yl_move rfl) rfl rfl ?_; intro a hf
  refine ef_call hf rfl (wanted_none _ _ rfl) rfl rfl (by kernel_rfl) (Spec.frame (L2 := []) (rCheckSet_spec S sv hE.app hT)) rfl (l' := [(10, _), (5, _), (4, _), (0, _), (1, _)]) rfl ?_; rintro a w v L ⟨L1, ⟨rfl, rfl⟩, rfl⟩ hf hT
  refine rd hf rfl (yl_assign rfl) rfl rfl ?_; intro a hf
  refine plan_nil ?_
  replace hf := hf.sel [6, 0, 1] (l' := [(6, _), (0, _), (1, _)]) rfl
  refine wpIn_seq ?_
  refine wpIn_seq ?_
  -- region 2 (ref.go:133)
  refine wp_reg ([]) ([_, _] ++ rs) [(0, true), (1, true)] mixed (by kernel_rfl) (hT) ?_; intro w hT
  refine rd hf rfl (yl_move rfl) rfl rfl ?_; intro a hf
  refine rd hf rfl (yl_cmp rfl rfl rfl) rfl rfl ?_; intro a hf
  refine plan_nil ?_
  refine wp_ifd hf rfl (fun hne => ?_) (fun hne => ?_)
  · -- then
    refine wpIn_seq ?_
    -- region 3 (ref.go:134)
    refine wp_reg ([]) ([_, _] ++ rs) [(0, true), (1, true), (2, true)] mixed (by kernel_rfl) (hT) ?_; intro w hT
    refine rd hf rfl (yl_move rfl) rfl rfl ?_; intro a hf
    refine rd hf rfl (yl_assign rfl) rfl rfl ?_; intro a hf
    refine rd hf rfl (yl_assign rfl) rfl rfl ?_; intro a hf
    refine plan_nil ?_
    replace hf := hf.sel [5, 4] (l' := [(5, _), (4, _)]) rfl
    refine wpIn_ret ?_
    exact body_ret hf (L := [_, _]) (hT) rfl rfl ⟨s, 0, _, rfl, ⟨lv, _, rfl, hS⟩, rfl, .inl ⟨hne, rfl, rfl⟩⟩
  · -- else
    have h0 : setE S = 0 := by omega
    refine wpIn_skip ?_
    refine wpIn_seq ?_
    -- region 4 (ref.go:136)
    refine wp_reg ([]) ([_, _] ++ rs) [(0, true)] mixed (by kernel_rfl) (hT) ?_; intro w hT
    refine rd hf rfl (yl_assign rfl) rfl rfl ?_; intro a hf
    refine plan_nil ?_
    replace hf := hf.sel [7, 0, 1] (l' := [(7, _), (0, _), (1, _)]) rfl
    refine wpIn_seq ?_
    refine wpIn_seq ?_
    -- region 5 (ref.go:137)
    refine wp_reg ([]) ([_, _] ++ rs) [(0, true)] mixed (by kernel_rfl) (hT) ?_; intro w hT
    refine rd hf rfl (yl_assign rfl) rfl rfl ?_; intro a hf
    refine plan_nil ?_
    refine wpIn_block ?_
    replace hT := hT.emp
    have hlen0 := hS.len_le
    refine wp_loopS (σ := Nat × Value) (fun (k, q) => [(8, .int .i64 (k : Nat)), (7, q)]) [(0, _), (1, _)] (fun (k, q) L => k ≤ s.L.length ∧ ∃ XD, Sl encHld 44 q ((s.L.take k).filter fun h => !inS S h.r.id) XD ∧ L = [XD]) (fun (k, q) => s.L.length - k) (0, .slice none 0 0) (L := [_]) (R := [_, _] ++ rs) (hf.sel [8, 7, 0, 1] rfl) (⟨Nat.zero_le _, _, by simpa using sl_nil, rfl⟩) hT ?_
    clear hf hT; rintro ⟨k, q⟩ a w L hf ⟨hk, XD, hD, rfl⟩ hT
    replace hf : Fr _ [(8, .int .i64 (k : Nat)), (7, q), (0, _), (1, _)] _ _ := hf
    refine wpIn_seq ?_
    refine wpIn_seq ?_
    -- region 6 (ref.go:137)
    refine wp_reg ([]) ([_, _, _] ++ rs) [(0, true), (1, true), (2, true), (3, true), (4, true), (5, true), (6, true)] mixed (by kernel_rfl) (hT) ?_; intro w hT
    refine rd hf rfl (yl_move rfl) rfl rfl ?_; intro a hf
    refine rd hf rfl (yl_move rfl) rfl rfl ?_; intro a hf
    refine rd hf rfl (yl_nil rfl) rfl rfl ?_; intro a hf
    refine rd hf rfl (yl_faddr Try.underlying68 rfl rfl sz_35 (k := 2) rfl) rfl rfl ?_; intro a hf
    refine rd hf rfl (yl_load Try.underlying35 rfl rfl ⟨_, .tail _ (.head _), _, _, _, pt_self _ _, rfl⟩) rfl rfl ?_; intro a hf
    refine rd hf rfl (yl_lenE rfl Try.underlying35 (hS.els (.tail _ (.tail _ (.head _))))) rfl rfl ?_; intro a hf
    refine rd hf rfl (yl_cmp rfl rfl rfl) rfl rfl ?_; intro a hf
    refine plan_nil ?_
    replace hf := hf.sel [21, 8, 7, 0, 1] (l' := [(21, _), (8, _), (7, _), (0, _), (1, _)]) rfl
    refine wp_ifd hf rfl (fun hlt => ?_) (fun hlt => ?_)
    · -- then
      have hltk : k < s.L.length := by omega
      have hj : s.L[k]? = some s.L[k] := List.getElem?_eq_getElem hltk
      have hfl : ((s.L.take k).filter fun h => !inS S h.r.id).length ≤ s.L.length := Nat.le_trans (List.length_filter_le _ _) (by rw [List.length_take]; omega)
      refine wpIn_skip ?_
      refine wpIn_seq ?_
      refine wpIn_block ?_
      refine wpIn_seq ?_
      -- region 8 (ref.go:138)
      refine wp_reg ([]) ([_, _, _] ++ rs) [(0, true), (1, true), (2, true), (3, true), (4, true), (5, true), (6, true), (7, true), (8, true), (9, true), (10, false), (11, true)] mixed (by kernel_rfl) (hT) ?_; intro w hT
      refine rd hf rfl (yl_move rfl) rfl rfl ?_; intro a hf
      refine rd hf rfl (yl_move rfl) rfl rfl ?_; intro a hf
      refine rd hf rfl (yl_nil rfl) rfl rfl ?_; intro a hf
      refine rd hf rfl (yl_faddr Try.underlying68 rfl rfl sz_35 (k := 2) rfl) rfl rfl ?_; intro a hf
      refine rd hf rfl (yl_load Try.underlying35 rfl rfl ⟨_, .tail _ (.head _), _, _, _, pt_self _ _, rfl⟩) rfl rfl ?_; intro a hf
      refine rd hf rfl (yl_move rfl) rfl rfl ?_; intro a hf
      refine rd hf rfl (yl_indexE rfl rfl Try.underlying35 sz_44 (hS.els (.tail _ (.tail _ (.head _)))) (by omega) (by omega)) rfl rfl ?_; intro a hf
      refine rd hf rfl (yl_faddr Try.underlying44 rfl rfl sz_31 rfl) rfl rfl ?_; intro a hf
      refine rd hf rfl (yl_faddr Try.underlying31 rfl rfl sz_2 rfl) rfl rfl ?_; intro a hf
      refine rd hf rfl (yl_load Try.underlying2 rfl rfl ((hS.els (.tail _ (.tail _ (.head _)))).cell hj (f := 0) rfl)) rfl rfl ?_; intro a hf
      refine ef_call hf rfl (wanted_none _ _ rfl) rfl rfl (by kernel_rfl) (Spec.frame (L2 := []) (rIsIn_spec S sv hE.app s.L[k].r.id hT)) rfl (l' := [(33, _), (32, _), (31, _), (30, _), (29, _), (28, _), (27, _), (26, _), (25, _), (24, _), (21, _), (8, _), (7, _), (0, _), (1, _)]) rfl ?_; rintro a w v L ⟨L1, ⟨rfl, rfl⟩, rfl⟩ hf hT
      refine rd hf rfl (yl_not rfl) rfl rfl ?_; intro a hf
      refine plan_nil ?_
      replace hf := hf.sel [35, 8, 7, 0, 1] (l' := [(35, _), (8, _), (7, _), (0, _), (1, _)]) rfl
      refine wp_if hf rfl (fun hin => ?_) (fun hin => ?_)
      · -- then
        -- region 9 (ref.go:139)
        refine wp_reg ([_]) ([_, _] ++ rs) [(0, true), (1, true), (2, true), (3, true), (4, true), (5, true), (6, true), (7, true), (8, false), (9, false), (10, true)] mixed (by kernel_rfl) (hT.brings [0]) ?_; intro w hT
        refine rd hf rfl (yl_move rfl) rfl rfl ?_; intro a hf
        refine rd hf rfl (yl_move rfl) rfl rfl ?_; intro a hf
        refine rd hf rfl (yl_nil rfl) rfl rfl ?_; intro a hf
        refine rd hf rfl (yl_faddr Try.underlying68 rfl rfl sz_35 (k := 2) rfl) rfl rfl ?_; intro a hf
        refine rd hf rfl (yl_load Try.underlying35 rfl rfl ⟨_, .head _, _, _, _, pt_self _ _, rfl⟩) rfl rfl ?_; intro a hf
        refine rd hf rfl (yl_move rfl) rfl rfl ?_; intro a hf
        refine rd hf rfl (yl_indexE rfl rfl Try.underlying35 sz_44 (hS.els (.tail _ (.head _))) (by omega) (by omega)) rfl rfl ?_; intro a hf
        refine rd hf rfl (yl_loadA Try.underlying44 rfl sz_44 rfl ((hS.els (.tail _ (.head _))).row hj) rfl) rfl rfl ?_; intro a hf
        refine ef hf hT rfl rfl (ef_buildSlice (E := encHld) (xs := [s.L[k]]) rfl rfl Try.underlying35 zs_44 rfl (by decide) rfl (by decide)) rfl (l' := [(43, _), (42, _), (41, _), (40, _), (39, _), (38, _), (37, _), (36, _), (35, _), (8, _), (7, _), (0, _), (1, _)]) rfl ?_; rintro a w one L ⟨b1, p1, hvp1, hp1, rfl⟩ hf hT
        replace hT : Tot _ _ ([_, _] ++ ([_, _] ++ rs)) := hT.bring 1
        refine ef hf hT rfl rfl (ef_append (E := encHld) (L := [_]) rfl rfl Try.underlying35 zb_44 rfl hD (hp1.els (.tail _ (.head _))) (by simp; omega) (by simp [maxLen]; omega)) rfl (l' := [(44, _), (43, _), (42, _), (41, _), (40, _), (39, _), (38, _), (37, _), (36, _), (35, _), (8, _), (7, _), (0, _), (1, _)]) rfl ?_; rintro a w q2 L ⟨X1, hS1, rfl⟩ hf hT
        refine rw_ hf rfl (yl_assign rfl) rfl (l' := [(7, _), (45, _), (44, _), (43, _), (42, _), (41, _), (40, _), (39, _), (38, _), (37, _), (36, _), (35, _), (8, _), (0, _), (1, _)]) rfl ?_; intro a hf
        refine plan_nil ?_
        replace hf := hf.sel [7, 8, 0, 1] (l' := [(7, _), (8, _), (0, _), (1, _)]) rfl
        -- region 7 (ref.go:137)
        refine wp_reg ([]) ([_, _, _, _] ++ rs) [(0, true), (1, true), (2, true)] mixed (by kernel_rfl) (hT) ?_; intro w hT
        refine rd hf rfl (yl_move rfl) rfl rfl ?_; intro a hf
        refine rd hf rfl (yl_add rfl rfl (by unfold inI64; omega)) rfl rfl ?_; intro a hf
        refine rw_ hf rfl (yl_assign rfl) rfl (l' := [(8, _), (23, _), (22, _), (7, _), (0, _), (1, _)]) rfl ?_; intro a hf
        refine plan_nil ?_
        exact ⟨(k + 1, q2), _, hf.sel [8, 7, 0, 1] rfl, ⟨by omega, _, by rw [filter_take_succ hltk, if_pos hin]; exact hS1, rfl⟩, (hT.brings [1]).tail, by first | omega | (dsimp only; omega)⟩
      · -- else
        refine wpIn_skip ?_
        -- region 7 (ref.go:137)
        refine wp_reg ([]) ([_, _, _] ++ rs) [(0, true), (1, true), (2, true)] mixed (by kernel_rfl) (hT) ?_; intro w hT
        refine rd hf rfl (yl_move rfl) rfl rfl ?_; intro a hf
        refine rd hf rfl (yl_add rfl rfl (by unfold inI64; omega)) rfl rfl ?_; intro a hf
        refine rw_ hf rfl (yl_assign rfl) rfl (l' := [(8, _), (23, _), (22, _), (35, _), (7, _), (0, _), (1, _)]) rfl ?_; intro a hf
        refine plan_nil ?_
        replace hf := hf.sel [8, 7, 0, 1] (l' := [(8, _), (7, _), (0, _), (1, _)]) rfl
        exact ⟨(k + 1, q), _, hf.sel [8, 7, 0, 1] rfl, ⟨by omega, _, by rw [filter_take_succ hltk, if_neg (by rw [hin]; decide), List.append_nil]; exact hD, rfl⟩, hT, by first | omega | (dsimp only; omega)⟩
    · -- else
      obtain rfl : k = s.L.length := by omega
      rw [List.take_length, ← ackTo_all] at hD
      have hal := ackTo_len S s s.L.length
      refine wpIn_exit ?_
      refine then_exit ?_
      refine then_exit ?_
      refine inBlock_hit ?_
      refine wpIn_seq ?_
      -- region 10 (ref.go:142)
      refine wp_reg ([]) ([_, _, _] ++ rs) [(0, true), (1, true), (2, true), (3, true), (4, true), (5, true), (6, true), (7, true), (8, true)] mixed (by kernel_rfl) (hT) ?_; intro w hT
      refine rd hf rfl (yl_move rfl) rfl rfl ?_; intro a hf
      refine rd hf rfl (yl_nil rfl) rfl rfl ?_; intro a hf
      refine rd hf rfl (yl_faddr Try.underlying68 rfl rfl sz_35 (k := 2) rfl) rfl rfl ?_; intro a hf
      refine rd hf rfl (yl_load Try.underlying35 rfl rfl ⟨_, .tail _ (.head _), _, _, _, pt_self _ _, rfl⟩) rfl rfl ?_; intro a hf
      refine rd hf rfl (yl_lenE rfl Try.underlying35 (hS.els (.tail _ (.tail _ (.head _))))) rfl rfl ?_; intro a hf
      refine rd hf rfl (yl_move rfl) rfl rfl ?_; intro a hf
      refine rd hf rfl (yl_lenE rfl Try.underlying35 (hD.els (.head _))) rfl rfl ?_; intro a hf
      refine rd hf rfl (yl_sub rfl rfl (by unfold inI64; omega)) rfl rfl ?_; intro a hf
      refine rd hf rfl (yl_assign rfl) rfl rfl ?_; intro a hf
      refine plan_nil ?_
      replace hf := hf.sel [9, 7, 0] (l' := [(9, _), (7, _), (0, _)]) rfl
      refine wpIn_seq ?_
      -- region 11 (ref.go:143)
      refine wp_reg ([]) ([_, _, _] ++ rs) [(0, true), (1, true), (2, true), (3, true), (4, false)] mixed (by kernel_rfl) (hT) ?_; intro w hT
      refine rd hf rfl (yl_move rfl) rfl rfl ?_; intro a hf
      refine rd hf rfl (yl_move rfl) rfl rfl ?_; intro a hf
      refine rd hf rfl (yl_nil rfl) rfl rfl ?_; intro a hf
      refine rd hf rfl (yl_faddr Try.underlying68 rfl rfl sz_35 (k := 2) rfl) rfl rfl ?_; intro a hf
      replace hT : Tot _ _ ([_] ++ ([_, _] ++ rs)) := hT.bring 1
      refine efS_last hf hT rfl rfl (by kernel_rfl) (ef_store rfl rfl sz_35 hD.one rfl) ?_; rintro w L rfl hT
      replace hf := hf.sel [9] (l' := [(9, _)]) rfl
      refine wpIn_seq ?_
      -- region 12 (ref.go:144)
      refine wp_reg ([]) ([_, _, _] ++ rs) [(0, true), (1, true), (2, true)] mixed (by kernel_rfl) (hT) ?_; intro w hT
      refine rd hf rfl (yl_move rfl) rfl rfl ?_; intro a hf
      refine rd hf rfl (yl_assign rfl) rfl rfl ?_; intro a hf
      refine rd hf rfl (yl_assign rfl) rfl rfl ?_; intro a hf
      refine plan_nil ?_
      refine wpIn_ret ?_
      exact body_ret hf (L := [_, _]) ((hT.brings [2]).tail) rfl rfl ⟨ackTo S s s.L.length, _, _, (by rw [h0]; rfl), ⟨q, _, rfl, hD⟩, rfl, .inr ⟨h0, rfl, rfl⟩⟩
theorem setSent_get {L : List Hld} {ks : List Int} {t : Int} {k : Nat} (hk : k < L.length) (hn : L[k].r.id ∉ ks) : (setSent L ks t)[k]? = some L[k] := by
  simp only [setSent, List.getElem?_map, List.getElem?_eq_getElem hk, Option.map_some, if_neg hn]
theorem setSent_one {L : List Hld} (hn : (ids L).Nodup) {i : Nat} (hi : i < L.length) {ks : List Int} {t : Int} (hk : L[i].r.id ∉ ks) : setSent L (ks ++ [L[i].r.id]) t = (setSent L ks t).set i { L[i] with sent := t } := by
  rw [← setSent_snoc]
  apply List.ext_getElem (by simp [setSent])
  intro j h1 h2
  have hj : j < L.length := by simpa [setSent] using h1
  simp only [setSent, List.getElem_map, List.getElem_set]
  by_cases hij : i = j
  · subst hij; simp [hk]
  · rw [if_neg hij, if_neg]
    intro he
    apply hij
    have h3 : L[j].r.id = L[i].r.id := by
      by_cases hq : L[j].r.id ∈ ks <;> simp [hq] at he <;> exact he
    have h4 := List.pairwise_iff_getElem.1 hn
    have h5 : (ids L)[i]'(by simpa [ids] using hi) = (ids L)[j]'(by simpa [ids] using hj) := by simp [ids, h3]
    rcases Nat.lt_or_ge i j with h6 | h6
    · exact absurd h5 (h4 i j _ _ h6)
    · rcases Nat.lt_or_ge j i with h7 | h7
      · exact absurd h5.symm (h4 j i _ _ h7)
      · omega
theorem bf_notin {n t wt : Int} {L : List Hld} (hn : (ids L).Nodup) {k : Nat} (hk : k < L.length) : L[k].r.id ∉ (bf n t wt (L.take k)).2 := by
  intro h
  have h1 := bfold_mem _ _ _ h
  obtain ⟨x, hx, he⟩ := List.mem_map.1 h1
  obtain ⟨j, hj, rfl⟩ := List.getElem_of_mem (List.mem_filter.1 hx).1
  simp only [List.length_take] at hj
  rw [List.getElem_take] at he
  have h4 := List.pairwise_iff_getElem.1 hn
  exact h4 j k (by simp [ids]; omega) (by simp [ids]; omega) (by omega) (by simp [ids, he])
theorem rBurst_spec {e : Env} {w : World} {rs : List Part} (b : Nat) (s : BS) (Lb : List Part) (hB : RB b s.cap s.time s.L Lb) (hI : Inv s) (hlen : s.L.length ≤ 256) (htime : 0 ≤ s.time) (n t wt : Int) (hT : Tot e w (Lb ++ rs)) : Spec Try.prog 25 #[.pointer (some ⟨b, 0, none⟩), .int .i64 n, .int .i64 t, .int .i64 wt] e w rs (fun v L => ∃ s' d er q X Lb', v = .tuple #[q, .int .i64 er] ∧ Sl encI 2 q d X ∧ RB b s'.cap s'.time s'.L Lb' ∧ L = X :: Lb' ∧ ((Oor s n t wt ∧ er = 3 ∧ s' = s ∧ d = []) ∨ (¬ Oor s n t wt ∧ er = 0 ∧ s' = bst s n t wt ∧ d = (bf n t wt s.L).2))) := by
  refine spec_body Try.func25 rfl Try.ntmps25 rfl rfl ?_
  intro a hf
  obtain ⟨lv, X, rfl, hS⟩ := hB
  refine wpIn_seq ?_
  -- region 0 (ref.go:112)
  refine wp_reg ([]) ([_, _] ++ rs) [(0, true), (1, true)] mixed (by kernel_rfl) (hT) ?_; intro w hT
  refine rd hf rfl (yl_assign rfl) rfl rfl ?_; intro a hf
  refine rd hf rfl (yl_assign rfl) rfl rfl ?_; intro a hf
  refine plan_nil ?_
  refine wpIn_seq ?_
  refine wpIn_seq ?_
  -- region 1 (ref.go:113)
  refine wp_reg ([]) ([_, _] ++ rs) [(0, true), (1, true), (2, true), (3, true), (4, true), (5, true), (6, true), (7, true), (8, true), (9, true), (10, true), (11, true), (12, true), (13, true), (14, true), (15, true), (16, true), (17, true), (18, true), (19, true), (20, true), (21, true), (22, true), (23, true), (24, true), (25, true)] mixed (by kernel_rfl) (hT) ?_; intro w hT
  refine rd hf rfl (yl_move rfl) rfl rfl ?_; intro a hf
  refine rd hf rfl (yl_cmp rfl rfl rfl) rfl rfl ?_; intro a hf
  refine rd hf rfl (yl_move rfl) rfl rfl ?_; intro a hf
  by_cases hg2 : n < 0
  · have hgT1 : decide (n < 0) = true := by simpa using hg2
    refine rdF hf rfl rfl rfl rfl (by first | exact hgT1 | simp [hgT1]) rfl (l' := [(16, _), (15, _), (14, _), (13, _), (9, _), (8, _), (0, _), (1, _), (2, _), (3, _)]) rfl ?_; intro a hf
    refine rdF hf rfl rfl rfl rfl (by first | exact hgT1 | simp [hgT1]) rfl (l' := [(17, _), (16, _), (15, _), (14, _), (13, _), (9, _), (8, _), (0, _), (1, _), (2, _), (3, _)]) rfl ?_; intro a hf
    refine rd hf rfl (yl_pickTT rfl hgT1 rfl) rfl rfl ?_; intro a hf
    refine rd hf rfl (yl_move rfl) rfl rfl ?_; intro a hf
    refine rdF hf rfl rfl rfl rfl (rfl) rfl (l' := [(20, _), (19, _), (18, _), (17, _), (16, _), (15, _), (14, _), (13, _), (9, _), (8, _), (0, _), (1, _), (2, _), (3, _)]) rfl ?_; intro a hf
    refine rdF hf rfl rfl rfl rfl (rfl) rfl (l' := [(21, _), (20, _), (19, _), (18, _), (17, _), (16, _), (15, _), (14, _), (13, _), (9, _), (8, _), (0, _), (1, _), (2, _), (3, _)]) rfl ?_; intro a hf
    refine rdF hf rfl rfl rfl rfl (rfl) rfl (l' := [(22, _), (21, _), (20, _), (19, _), (18, _), (17, _), (16, _), (15, _), (14, _), (13, _), (9, _), (8, _), (0, _), (1, _), (2, _), (3, _)]) rfl ?_; intro a hf
    refine rdF hf rfl rfl rfl rfl (rfl) rfl (l' := [(23, _), (22, _), (21, _), (20, _), (19, _), (18, _), (17, _), (16, _), (15, _), (14, _), (13, _), (9, _), (8, _), (0, _), (1, _), (2, _), (3, _)]) rfl ?_; intro a hf
    refine rdF hf rfl rfl rfl rfl (rfl) rfl (l' := [(24, _), (23, _), (22, _), (21, _), (20, _), (19, _), (18, _), (17, _), (16, _), (15, _), (14, _), (13, _), (9, _), (8, _), (0, _), (1, _), (2, _), (3, _)]) rfl ?_; intro a hf
    refine rdF hf rfl rfl rfl rfl (rfl) rfl (l' := [(25, _), (24, _), (23, _), (22, _), (21, _), (20, _), (19, _), (18, _), (17, _), (16, _), (15, _), (14, _), (13, _), (9, _), (8, _), (0, _), (1, _), (2, _), (3, _)]) rfl ?_; intro a hf
    refine rd hf rfl (yl_pickTT rfl rfl rfl) rfl rfl ?_; intro a hf
    refine rd hf rfl (yl_move rfl) rfl rfl ?_; intro a hf
    refine rdF hf rfl rfl rfl rfl (rfl) rfl (l' := [(28, _), (27, _), (26, _), (25, _), (24, _), (23, _), (22, _), (21, _), (20, _), (19, _), (18, _), (17, _), (16, _), (15, _), (14, _), (13, _), (9, _), (8, _), (0, _), (1, _), (2, _), (3, _)]) rfl ?_; intro a hf
    refine rdF hf rfl rfl rfl rfl (rfl) rfl (l' := [(29, _), (28, _), (27, _), (26, _), (25, _), (24, _), (23, _), (22, _), (21, _), (20, _), (19, _), (18, _), (17, _), (16, _), (15, _), (14, _), (13, _), (9, _), (8, _), (0, _), (1, _), (2, _), (3, _)]) rfl ?_; intro a hf
    refine rd hf rfl (yl_pickTT rfl rfl rfl) rfl rfl ?_; intro a hf
    refine rd hf rfl (yl_move rfl) rfl rfl ?_; intro a hf
    refine rdF hf rfl rfl rfl rfl (rfl) rfl (l' := [(32, _), (31, _), (30, _), (29, _), (28, _), (27, _), (26, _), (25, _), (24, _), (23, _), (22, _), (21, _), (20, _), (19, _), (18, _), (17, _), (16, _), (15, _), (14, _), (13, _), (9, _), (8, _), (0, _), (1, _), (2, _), (3, _)]) rfl ?_; intro a hf
    refine rdF hf rfl rfl rfl rfl (rfl) rfl (l' := [(33, _), (32, _), (31, _), (30, _), (29, _), (28, _), (27, _), (26, _), (25, _), (24, _), (23, _), (22, _), (21, _), (20, _), (19, _), (18, _), (17, _), (16, _), (15, _), (14, _), (13, _), (9, _), (8, _), (0, _), (1, _), (2, _), (3, _)]) rfl ?_; intro a hf
    refine rd hf rfl (yl_pickTT rfl rfl rfl) rfl rfl ?_; intro a hf
    refine rd hf rfl (yl_move rfl) rfl rfl ?_; intro a hf
    refine rdF hf rfl rfl rfl rfl (rfl) rfl (l' := [(36, _), (35, _), (34, _), (33, _), (32, _), (31, _), (30, _), (29, _), (28, _), (27, _), (26, _), (25, _), (24, _), (23, _), (22, _), (21, _), (20, _), (19, _), (18, _), (17, _), (16, _), (15, _), (14, _), (13, _), (9, _), (8, _), (0, _), (1, _), (2, _), (3, _)]) rfl ?_; intro a hf
    refine rdF hf rfl rfl rfl rfl (rfl) rfl (l' := [(37, _), (36, _), (35, _), (34, _), (33, _), (32, _), (31, _), (30, _), (29, _), (28, _), (27, _), (26, _), (25, _), (24, _), (23, _), (22, _), (21, _), (20, _), (19, _), (18, _), (17, _), (16, _), (15, _), (14, _), (13, _), (9, _), (8, _), (0, _), (1, _), (2, _), (3, _)]) rfl ?_; intro a hf
    refine rd hf rfl (yl_pickTT rfl rfl rfl) rfl rfl ?_; intro a hf
    refine plan_nil ?_
    replace hf := hf.sel [38, 0, 1, 2, 3] (l' := [(38, _), (0, _), (1, _), (2, _), (3, _)]) rfl
    refine wp_ifTT hf rfl (rfl) ?_
    refine wpIn_seq ?_
    -- region 2 (ref.go:114)
    refine wp_reg ([]) ([_, _] ++ rs) [(0, true), (1, true)] mixed (by kernel_rfl) (hT) ?_; intro w hT
    refine rd hf rfl (yl_assign rfl) rfl rfl ?_; intro a hf
    refine rd hf rfl (yl_assign rfl) rfl rfl ?_; intro a hf
    refine plan_nil ?_
    replace hf := hf.sel [9, 8] (l' := [(9, _), (8, _)]) rfl
    refine wpIn_ret ?_
    replace hT := hT.emp
    exact body_ret hf (L := [_, _, _]) (hT) rfl rfl ⟨s, [], 3, _, _, _, rfl, sl_nil, ⟨lv, _, rfl, hS⟩, rfl, .inl ⟨by unfold Oor; omega, rfl, rfl, rfl⟩⟩
  · have hgT1 : decide (n < 0) = false := by simpa using hg2
    refine rdT hf rfl rfl rfl rfl (by first | exact hgT1 | simp [hgT1]) (yl_move rfl) rfl (l' := [(16, _), (15, _), (14, _), (13, _), (9, _), (8, _), (0, _), (1, _), (2, _), (3, _)]) rfl ?_; intro a hf
    refine rdT hf rfl rfl rfl rfl (by first | exact hgT1 | simp [hgT1]) (yl_cmp rfl rfl rfl) rfl (l' := [(17, _), (16, _), (15, _), (14, _), (13, _), (9, _), (8, _), (0, _), (1, _), (2, _), (3, _)]) rfl ?_; intro a hf
    refine rd hf rfl (yl_pickFF rfl hgT1 rfl) rfl rfl ?_; intro a hf
    refine rd hf rfl (yl_move rfl) rfl rfl ?_; intro a hf
    by_cases hg6 : 16777216 < n
    · have hgT2 : decide (16777216 < n) = true := by simpa using hg6
      refine rdF hf rfl rfl rfl rfl (by first | exact hgT2 | simp [hgT2]) rfl (l' := [(20, _), (19, _), (18, _), (17, _), (16, _), (15, _), (14, _), (13, _), (9, _), (8, _), (0, _), (1, _), (2, _), (3, _)]) rfl ?_; intro a hf
      refine rdF hf rfl rfl rfl rfl (by first | exact hgT2 | simp [hgT2]) rfl (l' := [(21, _), (20, _), (19, _), (18, _), (17, _), (16, _), (15, _), (14, _), (13, _), (9, _), (8, _), (0, _), (1, _), (2, _), (3, _)]) rfl ?_; intro a hf
      refine rdF hf rfl rfl rfl rfl (by first | exact hgT2 | simp [hgT2]) rfl (l' := [(22, _), (21, _), (20, _), (19, _), (18, _), (17, _), (16, _), (15, _), (14, _), (13, _), (9, _), (8, _), (0, _), (1, _), (2, _), (3, _)]) rfl ?_; intro a hf
      refine rdF hf rfl rfl rfl rfl (by first | exact hgT2 | simp [hgT2]) rfl (l' := [(23, _), (22, _), (21, _), (20, _), (19, _), (18, _), (17, _), (16, _), (15, _), (14, _), (13, _), (9, _), (8, _), (0, _), (1, _), (2, _), (3, _)]) rfl ?_; intro a hf
      refine rdF hf rfl rfl rfl rfl (by first | exact hgT2 | simp [hgT2]) rfl (l' := [(24, _), (23, _), (22, _), (21, _), (20, _), (19, _), (18, _), (17, _), (16, _), (15, _), (14, _), (13, _), (9, _), (8, _), (0, _), (1, _), (2, _), (3, _)]) rfl ?_; intro a hf
      refine rdF hf rfl rfl rfl rfl (by first | exact hgT2 | simp [hgT2]) rfl (l' := [(25, _), (24, _), (23, _), (22, _), (21, _), (20, _), (19, _), (18, _), (17, _), (16, _), (15, _), (14, _), (13, _), (9, _), (8, _), (0, _), (1, _), (2, _), (3, _)]) rfl ?_; intro a hf
      refine rd hf rfl (yl_pickTT rfl hgT2 rfl) rfl rfl ?_; intro a hf
      refine rd hf rfl (yl_move rfl) rfl rfl ?_; intro a hf
      refine rdF hf rfl rfl rfl rfl (rfl) rfl (l' := [(28, _), (27, _), (26, _), (25, _), (24, _), (23, _), (22, _), (21, _), (20, _), (19, _), (18, _), (17, _), (16, _), (15, _), (14, _), (13, _), (9, _), (8, _), (0, _), (1, _), (2, _), (3, _)]) rfl ?_; intro a hf
      refine rdF hf rfl rfl rfl rfl (rfl) rfl (l' := [(29, _), (28, _), (27, _), (26, _), (25, _), (24, _), (23, _), (22, _), (21, _), (20, _), (19, _), (18, _), (17, _), (16, _), (15, _), (14, _), (13, _), (9, _), (8, _), (0, _), (1, _), (2, _), (3, _)]) rfl ?_; intro a hf
      refine rd hf rfl (yl_pickTT rfl rfl rfl) rfl rfl ?_; intro a hf
      refine rd hf rfl (yl_move rfl) rfl rfl ?_; intro a hf
      refine rdF hf rfl rfl rfl rfl (rfl) rfl (l' := [(32, _), (31, _), (30, _), (29, _), (28, _), (27, _), (26, _), (25, _), (24, _), (23, _), (22, _), (21, _), (20, _), (19, _), (18, _), (17, _), (16, _), (15, _), (14, _), (13, _), (9, _), (8, _), (0, _), (1, _), (2, _), (3, _)]) rfl ?_; intro a hf
      refine rdF hf rfl rfl rfl rfl (rfl) rfl (l' := [(33, _), (32, _), (31, _), (30, _), (29, _), (28, _), (27, _), (26, _), (25, _), (24, _), (23, _), (22, _), (21, _), (20, _), (19, _), (18, _), (17, _), (16, _), (15, _), (14, _), (13, _), (9, _), (8, _), (0, _), (1, _), (2, _), (3, _)]) rfl ?_; intro a hf
      refine rd hf rfl (yl_pickTT rfl rfl rfl) rfl rfl ?_; intro a hf
      refine rd hf rfl (yl_move rfl) rfl rfl ?_; intro a hf
      refine rdF hf rfl rfl rfl rfl (rfl) rfl (l' := [(36, _), (35, _), (34, _), (33, _), (32, _), (31, _), (30, _), (29, _), (28, _), (27, _), (26, _), (25, _), (24, _), (23, _), (22, _), (21, _), (20, _), (19, _), (18, _), (17, _), (16, _), (15, _), (14, _), (13, _), (9, _), (8, _), (0, _), (1, _), (2, _), (3, _)]) rfl ?_; intro a hf
      refine rdF hf rfl rfl rfl rfl (rfl) rfl (l' := [(37, _), (36, _), (35, _), (34, _), (33, _), (32, _), (31, _), (30, _), (29, _), (28, _), (27, _), (26, _), (25, _), (24, _), (23, _), (22, _), (21, _), (20, _), (19, _), (18, _), (17, _), (16, _), (15, _), (14, _), (13, _), (9, _), (8, _), (0, _), (1, _), (2, _), (3, _)]) rfl ?_; intro a hf
      refine rd hf rfl (yl_pickTT rfl rfl rfl) rfl rfl ?_; intro a hf
      refine plan_nil ?_
      replace hf := hf.sel [38, 0, 1, 2, 3] (l' := [(38, _), (0, _), (1, _), (2, _), (3, _)]) rfl
      refine wp_ifTT hf rfl (rfl) ?_
      refine wpIn_seq ?_
      -- region 2 (ref.go:114)
      refine wp_reg ([]) ([_, _] ++ rs) [(0, true), (1, true)] mixed (by kernel_rfl) (hT) ?_; intro w hT
      refine rd hf rfl (yl_assign rfl) rfl rfl ?_; intro a hf
      refine rd hf rfl (yl_assign rfl) rfl rfl ?_; intro a hf
      refine plan_nil ?_
      replace hf := hf.sel [9, 8] (l' := [(9, _), (8, _)]) rfl
      refine wpIn_ret ?_
      replace hT := hT.emp
      exact body_ret hf (L := [_, _, _]) (hT) rfl rfl ⟨s, [], 3, _, _, _, rfl, sl_nil, ⟨lv, _, rfl, hS⟩, rfl, .inl ⟨by unfold Oor; omega, rfl, rfl, rfl⟩⟩
    · have hgT2 : decide (16777216 < n) = false := by simpa using hg6
      refine rdT hf rfl rfl rfl rfl (by first | exact hgT2 | simp [hgT2]) (yl_move rfl) rfl (l' := [(20, _), (19, _), (18, _), (17, _), (16, _), (15, _), (14, _), (13, _), (9, _), (8, _), (0, _), (1, _), (2, _), (3, _)]) rfl ?_; intro a hf
      refine rdT hf rfl rfl rfl rfl (by first | exact hgT2 | simp [hgT2]) (yl_move rfl) rfl (l' := [(21, _), (20, _), (19, _), (18, _), (17, _), (16, _), (15, _), (14, _), (13, _), (9, _), (8, _), (0, _), (1, _), (2, _), (3, _)]) rfl ?_; intro a hf
      refine rdT hf rfl rfl rfl rfl (by first | exact hgT2 | simp [hgT2]) (yl_nil rfl) rfl (l' := [(22, _), (21, _), (20, _), (19, _), (18, _), (17, _), (16, _), (15, _), (14, _), (13, _), (9, _), (8, _), (0, _), (1, _), (2, _), (3, _)]) rfl ?_; intro a hf
      refine rdT hf rfl rfl rfl rfl (by first | exact hgT2 | simp [hgT2]) (yl_faddr Try.underlying68 rfl rfl sz_2 (k := 1) rfl) rfl (l' := [(23, _), (22, _), (21, _), (20, _), (19, _), (18, _), (17, _), (16, _), (15, _), (14, _), (13, _), (9, _), (8, _), (0, _), (1, _), (2, _), (3, _)]) rfl ?_; intro a hf
      refine rdT hf rfl rfl rfl rfl (by first | exact hgT2 | simp [hgT2]) (yl_load Try.underlying2 rfl rfl ⟨_, .head _, _, _, _, pt_self _ _, rfl⟩) rfl (l' := [(24, _), (23, _), (22, _), (21, _), (20, _), (19, _), (18, _), (17, _), (16, _), (15, _), (14, _), (13, _), (9, _), (8, _), (0, _), (1, _), (2, _), (3, _)]) rfl ?_; intro a hf
      refine rdT hf rfl rfl rfl rfl (by first | exact hgT2 | simp [hgT2]) (yl_cmp rfl rfl rfl) rfl (l' := [(25, _), (24, _), (23, _), (22, _), (21, _), (20, _), (19, _), (18, _), (17, _), (16, _), (15, _), (14, _), (13, _), (9, _), (8, _), (0, _), (1, _), (2, _), (3, _)]) rfl ?_; intro a hf
      refine rd hf rfl (yl_pickFF rfl hgT2 rfl) rfl rfl ?_; intro a hf
      refine rd hf rfl (yl_move rfl) rfl rfl ?_; intro a hf
      by_cases hg14 : t < s.time
      · have hgT3 : decide (t < s.time) = true := by simpa using hg14
        refine rdF hf rfl rfl rfl rfl (by first | exact hgT3 | simp [hgT3]) rfl (l' := [(28, _), (27, _), (26, _), (25, _), (24, _), (23, _), (22, _), (21, _), (20, _), (19, _), (18, _), (17, _), (16, _), (15, _), (14, _), (13, _), (9, _), (8, _), (0, _), (1, _), (2, _), (3, _)]) rfl ?_; intro a hf
        refine rdF hf rfl rfl rfl rfl (by first | exact hgT3 | simp [hgT3]) rfl (l' := [(29, _), (28, _), (27, _), (26, _), (25, _), (24, _), (23, _), (22, _), (21, _), (20, _), (19, _), (18, _), (17, _), (16, _), (15, _), (14, _), (13, _), (9, _), (8, _), (0, _), (1, _), (2, _), (3, _)]) rfl ?_; intro a hf
        refine rd hf rfl (yl_pickTT rfl hgT3 rfl) rfl rfl ?_; intro a hf
        refine rd hf rfl (yl_move rfl) rfl rfl ?_; intro a hf
        refine rdF hf rfl rfl rfl rfl (rfl) rfl (l' := [(32, _), (31, _), (30, _), (29, _), (28, _), (27, _), (26, _), (25, _), (24, _), (23, _), (22, _), (21, _), (20, _), (19, _), (18, _), (17, _), (16, _), (15, _), (14, _), (13, _), (9, _), (8, _), (0, _), (1, _), (2, _), (3, _)]) rfl ?_; intro a hf
        refine rdF hf rfl rfl rfl rfl (rfl) rfl (l' := [(33, _), (32, _), (31, _), (30, _), (29, _), (28, _), (27, _), (26, _), (25, _), (24, _), (23, _), (22, _), (21, _), (20, _), (19, _), (18, _), (17, _), (16, _), (15, _), (14, _), (13, _), (9, _), (8, _), (0, _), (1, _), (2, _), (3, _)]) rfl ?_; intro a hf
        refine rd hf rfl (yl_pickTT rfl rfl rfl) rfl rfl ?_; intro a hf
        refine rd hf rfl (yl_move rfl) rfl rfl ?_; intro a hf
        refine rdF hf rfl rfl rfl rfl (rfl) rfl (l' := [(36, _), (35, _), (34, _), (33, _), (32, _), (31, _), (30, _), (29, _), (28, _), (27, _), (26, _), (25, _), (24, _), (23, _), (22, _), (21, _), (20, _), (19, _), (18, _), (17, _), (16, _), (15, _), (14, _), (13, _), (9, _), (8, _), (0, _), (1, _), (2, _), (3, _)]) rfl ?_; intro a hf
        refine rdF hf rfl rfl rfl rfl (rfl) rfl (l' := [(37, _), (36, _), (35, _), (34, _), (33, _), (32, _), (31, _), (30, _), (29, _), (28, _), (27, _), (26, _), (25, _), (24, _), (23, _), (22, _), (21, _), (20, _), (19, _), (18, _), (17, _), (16, _), (15, _), (14, _), (13, _), (9, _), (8, _), (0, _), (1, _), (2, _), (3, _)]) rfl ?_; intro a hf
        refine rd hf rfl (yl_pickTT rfl rfl rfl) rfl rfl ?_; intro a hf
        refine plan_nil ?_
        replace hf := hf.sel [38, 0, 1, 2, 3] (l' := [(38, _), (0, _), (1, _), (2, _), (3, _)]) rfl
        refine wp_ifTT hf rfl (rfl) ?_
        refine wpIn_seq ?_
        -- region 2 (ref.go:114)
        refine wp_reg ([]) ([_, _] ++ rs) [(0, true), (1, true)] mixed (by kernel_rfl) (hT) ?_; intro w hT
        refine rd hf rfl (yl_assign rfl) rfl rfl ?_; intro a hf
        refine rd hf rfl (yl_assign rfl) rfl rfl ?_; intro a hf
        refine plan_nil ?_
        replace hf := hf.sel [9, 8] (l' := [(9, _), (8, _)]) rfl
        refine wpIn_ret ?_
        replace hT := hT.emp
        exact body_ret hf (L := [_, _, _]) (hT) rfl rfl ⟨s, [], 3, _, _, _, rfl, sl_nil, ⟨lv, _, rfl, hS⟩, rfl, .inl ⟨by unfold Oor; omega, rfl, rfl, rfl⟩⟩
      · have hgT3 : decide (t < s.time) = false := by simpa using hg14
        refine rdT hf rfl rfl rfl rfl (by first | exact hgT3 | simp [hgT3]) (yl_move rfl) rfl (l' := [(28, _), (27, _), (26, _), (25, _), (24, _), (23, _), (22, _), (21, _), (20, _), (19, _), (18, _), (17, _), (16, _), (15, _), (14, _), (13, _), (9, _), (8, _), (0, _), (1, _), (2, _), (3, _)]) rfl ?_; intro a hf
        refine rdT hf rfl rfl rfl rfl (by first | exact hgT3 | simp [hgT3]) (yl_cmp rfl rfl rfl) rfl (l' := [(29, _), (28, _), (27, _), (26, _), (25, _), (24, _), (23, _), (22, _), (21, _), (20, _), (19, _), (18, _), (17, _), (16, _), (15, _), (14, _), (13, _), (9, _), (8, _), (0, _), (1, _), (2, _), (3, _)]) rfl ?_; intro a hf
        refine rd hf rfl (yl_pickFF rfl hgT3 rfl) rfl rfl ?_; intro a hf
        refine rd hf rfl (yl_move rfl) rfl rfl ?_; intro a hf
        by_cases hg18 : 1073741824 < t
        · have hgT4 : decide (1073741824 < t) = true := by simpa using hg18
          refine rdF hf rfl rfl rfl rfl (by first | exact hgT4 | simp [hgT4]) rfl (l' := [(32, _), (31, _), (30, _), (29, _), (28, _), (27, _), (26, _), (25, _), (24, _), (23, _), (22, _), (21, _), (20, _), (19, _), (18, _), (17, _), (16, _), (15, _), (14, _), (13, _), (9, _), (8, _), (0, _), (1, _), (2, _), (3, _)]) rfl ?_; intro a hf
          refine rdF hf rfl rfl rfl rfl (by first | exact hgT4 | simp [hgT4]) rfl (l' := [(33, _), (32, _), (31, _), (30, _), (29, _), (28, _), (27, _), (26, _), (25, _), (24, _), (23, _), (22, _), (21, _), (20, _), (19, _), (18, _), (17, _), (16, _), (15, _), (14, _), (13, _), (9, _), (8, _), (0, _), (1, _), (2, _), (3, _)]) rfl ?_; intro a hf
          refine rd hf rfl (yl_pickTT rfl hgT4 rfl) rfl rfl ?_; intro a hf
          refine rd hf rfl (yl_move rfl) rfl rfl ?_; intro a hf
          refine rdF hf rfl rfl rfl rfl (rfl) rfl (l' := [(36, _), (35, _), (34, _), (33, _), (32, _), (31, _), (30, _), (29, _), (28, _), (27, _), (26, _), (25, _), (24, _), (23, _), (22, _), (21, _), (20, _), (19, _), (18, _), (17, _), (16, _), (15, _), (14, _), (13, _), (9, _), (8, _), (0, _), (1, _), (2, _), (3, _)]) rfl ?_; intro a hf
          refine rdF hf rfl rfl rfl rfl (rfl) rfl (l' := [(37, _), (36, _), (35, _), (34, _), (33, _), (32, _), (31, _), (30, _), (29, _), (28, _), (27, _), (26, _), (25, _), (24, _), (23, _), (22, _), (21, _), (20, _), (19, _), (18, _), (17, _), (16, _), (15, _), (14, _), (13, _), (9, _), (8, _), (0, _), (1, _), (2, _), (3, _)]) rfl ?_; intro a hf
          refine rd hf rfl (yl_pickTT rfl rfl rfl) rfl rfl ?_; intro a hf
          refine plan_nil ?_
          replace hf := hf.sel [38, 0, 1, 2, 3] (l' := [(38, _), (0, _), (1, _), (2, _), (3, _)]) rfl
          refine wp_ifTT hf rfl (rfl) ?_
          refine wpIn_seq ?_
          -- region 2 (ref.go:114)
          refine wp_reg ([]) ([_, _] ++ rs) [(0, true), (1, true)] mixed (by kernel_rfl) (hT) ?_; intro w hT
          refine rd hf rfl (yl_assign rfl) rfl rfl ?_; intro a hf
          refine rd hf rfl (yl_assign rfl) rfl rfl ?_; intro a hf
          refine plan_nil ?_
          replace hf := hf.sel [9, 8] (l' := [(9, _), (8, _)]) rfl
          refine wpIn_ret ?_
          replace hT := hT.emp
          exact body_ret hf (L := [_, _, _]) (hT) rfl rfl ⟨s, [], 3, _, _, _, rfl, sl_nil, ⟨lv, _, rfl, hS⟩, rfl, .inl ⟨by unfold Oor; omega, rfl, rfl, rfl⟩⟩
        · have hgT4 : decide (1073741824 < t) = false := by simpa using hg18
          refine rdT hf rfl rfl rfl rfl (by first | exact hgT4 | simp [hgT4]) (yl_move rfl) rfl (l' := [(32, _), (31, _), (30, _), (29, _), (28, _), (27, _), (26, _), (25, _), (24, _), (23, _), (22, _), (21, _), (20, _), (19, _), (18, _), (17, _), (16, _), (15, _), (14, _), (13, _), (9, _), (8, _), (0, _), (1, _), (2, _), (3, _)]) rfl ?_; intro a hf
          refine rdT hf rfl rfl rfl rfl (by first | exact hgT4 | simp [hgT4]) (yl_cmp rfl rfl rfl) rfl (l' := [(33, _), (32, _), (31, _), (30, _), (29, _), (28, _), (27, _), (26, _), (25, _), (24, _), (23, _), (22, _), (21, _), (20, _), (19, _), (18, _), (17, _), (16, _), (15, _), (14, _), (13, _), (9, _), (8, _), (0, _), (1, _), (2, _), (3, _)]) rfl ?_; intro a hf
          refine rd hf rfl (yl_pickFF rfl hgT4 rfl) rfl rfl ?_; intro a hf
          refine rd hf rfl (yl_move rfl) rfl rfl ?_; intro a hf
          by_cases hg22 : wt < 0
          · have hgT5 : decide (wt < 0) = true := by simpa using hg22
            refine rdF hf rfl rfl rfl rfl (by first | exact hgT5 | simp [hgT5]) rfl (l' := [(36, _), (35, _), (34, _), (33, _), (32, _), (31, _), (30, _), (29, _), (28, _), (27, _), (26, _), (25, _), (24, _), (23, _), (22, _), (21, _), (20, _), (19, _), (18, _), (17, _), (16, _), (15, _), (14, _), (13, _), (9, _), (8, _), (0, _), (1, _), (2, _), (3, _)]) rfl ?_; intro a hf
            refine rdF hf rfl rfl rfl rfl (by first | exact hgT5 | simp [hgT5]) rfl (l' := [(37, _), (36, _), (35, _), (34, _), (33, _), (32, _), (31, _), (30, _), (29, _), (28, _), (27, _), (26, _), (25, _), (24, _), (23, _), (22, _), (21, _), (20, _), (19, _), (18, _), (17, _), (16, _), (15, _), (14, _), (13, _), (9, _), (8, _), (0, _), (1, _), (2, _), (3, _)]) rfl ?_; intro a hf
            refine rd hf rfl (yl_pickTT rfl hgT5 rfl) rfl rfl ?_; intro a hf
            refine plan_nil ?_
            replace hf := hf.sel [38, 0, 1, 2, 3] (l' := [(38, _), (0, _), (1, _), (2, _), (3, _)]) rfl
            refine wp_ifTT hf rfl (rfl) ?_
            refine wpIn_seq ?_
            -- region 2 (ref.go:114)
            refine wp_reg ([]) ([_, _] ++ rs) [(0, true), (1, true)] mixed (by kernel_rfl) (hT) ?_; intro w hT
            refine rd hf rfl (yl_assign rfl) rfl rfl ?_; intro a hf
            refine rd hf rfl (yl_assign rfl) rfl rfl ?_; intro a hf
            refine plan_nil ?_
            replace hf := hf.sel [9, 8] (l' := [(9, _), (8, _)]) rfl
            refine wpIn_ret ?_
            replace hT := hT.emp
            exact body_ret hf (L := [_, _, _]) (hT) rfl rfl ⟨s, [], 3, _, _, _, rfl, sl_nil, ⟨lv, _, rfl, hS⟩, rfl, .inl ⟨by unfold Oor; omega, rfl, rfl, rfl⟩⟩
          · have hgT5 : decide (wt < 0) = false := by simpa using hg22
            refine rdT hf rfl rfl rfl rfl (by first | exact hgT5 | simp [hgT5]) (yl_move rfl) rfl (l' := [(36, _), (35, _), (34, _), (33, _), (32, _), (31, _), (30, _), (29, _), (28, _), (27, _), (26, _), (25, _), (24, _), (23, _), (22, _), (21, _), (20, _), (19, _), (18, _), (17, _), (16, _), (15, _), (14, _), (13, _), (9, _), (8, _), (0, _), (1, _), (2, _), (3, _)]) rfl ?_; intro a hf
            refine rdT hf rfl rfl rfl rfl (by first | exact hgT5 | simp [hgT5]) (yl_cmp rfl rfl rfl) rfl (l' := [(37, _), (36, _), (35, _), (34, _), (33, _), (32, _), (31, _), (30, _), (29, _), (28, _), (27, _), (26, _), (25, _), (24, _), (23, _), (22, _), (21, _), (20, _), (19, _), (18, _), (17, _), (16, _), (15, _), (14, _), (13, _), (9, _), (8, _), (0, _), (1, _), (2, _), (3, _)]) rfl ?_; intro a hf
            refine rd hf rfl (yl_pickFF rfl hgT5 rfl) rfl rfl ?_; intro a hf
            refine plan_nil ?_
            replace hf := hf.sel [38, 0, 1, 2, 3] (l' := [(38, _), (0, _), (1, _), (2, _), (3, _)]) rfl
            refine wp_ifd hf rfl (fun hlast => ?_) (fun hlast => ?_)
            · -- then
              refine wpIn_seq ?_
              -- region 2 (ref.go:114)
              refine wp_reg ([]) ([_, _] ++ rs) [(0, true), (1, true)] mixed (by kernel_rfl) (hT) ?_; intro w hT
              refine rd hf rfl (yl_assign rfl) rfl rfl ?_; intro a hf
              refine rd hf rfl (yl_assign rfl) rfl rfl ?_; intro a hf
              refine plan_nil ?_
              replace hf := hf.sel [9, 8] (l' := [(9, _), (8, _)]) rfl
              refine wpIn_ret ?_
              replace hT := hT.emp
              exact body_ret hf (L := [_, _, _]) (hT) rfl rfl ⟨s, [], 3, _, _, _, rfl, sl_nil, ⟨lv, _, rfl, hS⟩, rfl, .inl ⟨by unfold Oor; omega, rfl, rfl, rfl⟩⟩
            · -- else
              have hnoor : ¬ Oor s n t wt := by unfold Oor; omega
              have hlen0 := hS.len_le
              refine wpIn_skip ?_
              refine wpIn_seq ?_
              -- region 3 (ref.go:116)
              refine wp_reg ([]) ([_, _] ++ rs) [(0, true), (1, true), (2, true), (3, true), (4, false)] mixed (by kernel_rfl) (hT) ?_; intro w hT
              refine rd hf rfl (yl_move rfl) rfl rfl ?_; intro a hf
              refine rd hf rfl (yl_move rfl) rfl rfl ?_; intro a hf
              refine rd hf rfl (yl_nil rfl) rfl rfl ?_; intro a hf
              refine rd hf rfl (yl_faddr Try.underlying68 rfl rfl sz_2 (k := 1) rfl) rfl rfl ?_; intro a hf
              replace hT : Tot _ _ ([_] ++ ([_] ++ rs)) := hT.bring 0
              refine efS_last hf hT rfl rfl (by kernel_rfl) (ef_store rfl rfl sz_2 rfl rfl) ?_; rintro w L rfl hT
              replace hf := hf.sel [0, 1, 2, 3] (l' := [(0, _), (1, _), (2, _), (3, _)]) rfl
              refine wpIn_seq ?_
              -- region 4 (ref.go:117)
              refine wp_reg ([]) ([_, _] ++ rs) [(0, true)] mixed (by kernel_rfl) (hT) ?_; intro w hT
              refine rd hf rfl (yl_assign rfl) rfl rfl ?_; intro a hf
              refine plan_nil ?_
              refine wpIn_seq ?_
              refine wpIn_seq ?_
              -- region 5 (ref.go:118)
              refine wp_reg ([]) ([_, _] ++ rs) [(0, true)] mixed (by kernel_rfl) (hT) ?_; intro w hT
              refine rd hf rfl (yl_assign rfl) rfl rfl ?_; intro a hf
              refine plan_nil ?_
              refine wpIn_block ?_
              replace hT := hT.emp
              replace hT := hT.bring 2
              replace hT := hT.bring 2
              replace hT := hT.bring 2
              refine wp_loopS (σ := Nat × Value) (fun (k, q) => [(11, .int .i64 (k : Nat)), (10, q), (1, .int .i64 (bf n t wt (s.L.take k)).1)]) [(0, _), (2, _), (3, _)] (fun (k, q) L => k ≤ s.L.length ∧ ∃ XD XL, Sl encI 2 q (bf n t wt (s.L.take k)).2 XD ∧ Sl encHld 44 lv (setSent s.L (bf n t wt (s.L.take k)).2 t) XL ∧ L = [XD, pt b (.cells (rbCells s.cap t lv).toArray 68), XL]) (fun (k, q) => s.L.length - k) (0, .slice none 0 0) (L := [_, _, _]) (R := [] ++ rs) (hf.sel [11, 10, 1, 0, 2, 3] rfl) (⟨Nat.zero_le _, _, _, by simpa [bf, bfold] using sl_nil, by simpa [bf, bfold, setSent_nil] using hS, rfl⟩) hT ?_
              clear hf hT; rintro ⟨k, q⟩ a w L hf ⟨hk, XD, XL, hD, hY, rfl⟩ hT
              replace hf : Fr _ [(11, .int .i64 (k : Nat)), (10, q), (1, .int .i64 (bf n t wt (s.L.take k)).1), (0, _), (2, _), (3, _)] _ _ := hf
              have hsl : (setSent s.L (bf n t wt (s.L.take k)).2 t).length = s.L.length := by simp [setSent]
              refine wpIn_seq ?_
              refine wpIn_seq ?_
              -- region 6 (ref.go:118)
              refine wp_reg ([]) ([_, _, _] ++ rs) [(0, true), (1, true), (2, true), (3, true), (4, true), (5, true), (6, true)] mixed (by kernel_rfl) (hT) ?_; intro w hT
              refine rd hf rfl (yl_move rfl) rfl rfl ?_; intro a hf
              refine rd hf rfl (yl_move rfl) rfl rfl ?_; intro a hf
              refine rd hf rfl (yl_nil rfl) rfl rfl ?_; intro a hf
              refine rd hf rfl (yl_faddr Try.underlying68 rfl rfl sz_35 (k := 2) rfl) rfl rfl ?_; intro a hf
              refine rd hf rfl (yl_load Try.underlying35 rfl rfl ⟨_, .tail _ (.head _), _, _, _, pt_self _ _, rfl⟩) rfl rfl ?_; intro a hf
              refine rd hf rfl (yl_lenE rfl Try.underlying35 (hY.els (.tail _ (.tail _ (.head _))))) rfl rfl ?_; intro a hf
              refine rd hf rfl (yl_cmp rfl rfl rfl) rfl rfl ?_; intro a hf
              refine plan_nil ?_
              replace hf := hf.sel [49, 11, 10, 1, 0, 2, 3] (l' := [(49, _), (11, _), (10, _), (1, _), (0, _), (2, _), (3, _)]) rfl
              refine wp_ifd hf rfl (fun hlt => ?_) (fun hlt => ?_)
              · -- then
                have hltk : k < s.L.length := by omega
                have hnin := bf_notin (n := n) (t := t) (wt := wt) hI.nd hltk
                have hj : (setSent s.L (bf n t wt (s.L.take k)).2 t)[k]? = some s.L[k] := setSent_get hltk hnin
                have hho := hI.ok _ (List.getElem_mem hltk)
                have hbr := bytes_rng hho
                have hsuc := bf_succ (n := n) (t := t) (wt := wt) hltk
                have hrg : 0 ≤ (bf n t wt (s.L.take k)).1 ∧ (bf n t wt (s.L.take k)).1 ≤ n := bfold_rng n (by omega) ((s.L.take k).filter (due t wt)) (fun h hh => hI.ok h (List.mem_of_mem_take (List.mem_filter.1 hh).1))
                have hfl : (bf n t wt (s.L.take k)).2.length ≤ ((s.L.take k).filter (due t wt)).length := bfold_len n ((s.L.take k).filter (due t wt))
                have hfl2 : ((s.L.take k).filter (due t wt)).length ≤ 256 := Nat.le_trans (List.length_filter_le _ _) (by rw [List.length_take]; omega)
                refine wpIn_skip ?_
                refine wpIn_seq ?_
                refine wpIn_block ?_
                refine wpIn_seq ?_
                -- region 8 (ref.go:119)
                refine wp_reg ([]) ([_, _, _] ++ rs) [(0, true), (1, true), (2, true), (3, true), (4, true), (5, true), (6, true), (7, false), (8, false)] mixed (by kernel_rfl) (hT) ?_; intro w hT
                refine rd hf rfl (yl_move rfl) rfl rfl ?_; intro a hf
                refine rd hf rfl (yl_nil rfl) rfl rfl ?_; intro a hf
                refine rd hf rfl (yl_faddr Try.underlying68 rfl rfl sz_35 (k := 2) rfl) rfl rfl ?_; intro a hf
                refine rd hf rfl (yl_load Try.underlying35 rfl rfl ⟨_, .tail _ (.head _), _, _, _, pt_self _ _, rfl⟩) rfl rfl ?_; intro a hf
                refine rd hf rfl (yl_move rfl) rfl rfl ?_; intro a hf
                refine rd hf rfl (yl_indexE rfl rfl Try.underlying35 sz_44 (hY.els (.tail _ (.tail _ (.head _)))) (by omega) (by omega)) rfl rfl ?_; intro a hf
                refine rd hf rfl (yl_loadA Try.underlying44 rfl sz_44 rfl ((hY.els (.tail _ (.tail _ (.head _)))).row hj) rfl) rfl rfl ?_; intro a hf
                refine ef hf hT rfl rfl (ef_alloc zr_44) rfl (l' := [(58, _), (57, _), (56, _), (55, _), (54, _), (53, _), (52, _), (49, _), (11, _), (10, _), (1, _), (0, _), (2, _), (3, _)]) rfl ?_; rintro a w v L ⟨b1, rfl, rfl⟩ hf hT
                refine efS hf hT rfl rfl (ef_storeW rfl rfl sz_44 rfl rfl rfl) ?_; rintro w L rfl hT
                refine plan_nil ?_
                replace hf := hf.sel [12, 11, 10, 1, 0, 2, 3] (l' := [(12, _), (11, _), (10, _), (1, _), (0, _), (2, _), (3, _)]) rfl
                refine wpIn_seq ?_
                refine wpIn_seq ?_
                -- region 9: its branches meet again
                have hf0 := hf.sel [12, 11, 10, 1, 0, 2, 3] (l' := [(12, _), (11, _), (10, _), (1, _), (0, _), (2, _), (3, _)]) rfl
                refine wp_join hf0 hT 75 (.bool (!(due t wt s.L[k] && decide (s.L[k].bytes ≤ (bf n t wt (s.L.take k)).1)))) ?_ ?_
                · clear hf0
                  -- region 9 (ref.go:120)
                  refine wp_reg ([]) ([_, _, _, _] ++ rs) [(0, true), (1, true), (2, true), (3, true), (4, true), (5, true), (6, true), (7, true), (8, true), (9, true), (10, true), (11, true), (12, true), (13, false), (14, true), (15, true), (16, true)] mixed (by kernel_rfl) (hT) ?_; intro w hT
                  refine rd hf rfl (yl_faddr Try.underlying44 rfl rfl sz_2 (k := 6) rfl) rfl rfl ?_; intro a hf
                  refine rd hf rfl (yl_load Try.underlying2 rfl rfl ⟨_, .head _, _, _, _, pt_self _ _, rfl⟩) rfl rfl ?_; intro a hf
                  refine rd hf rfl (yl_cmp rfl rfl rfl) rfl rfl ?_; intro a hf
                  refine rd hf rfl (yl_move rfl) rfl rfl ?_; intro a hf
                  by_cases hg3 : s.L[k].sent ≠ -1
                  · have hgT6 : decide (s.L[k].sent ≠ -1) = true := by simpa using hg3
                    refine rdT hf rfl rfl rfl rfl (by first | exact hgT6 | simp [hgT6]) (yl_faddr Try.underlying44 rfl rfl sz_2 (k := 6) rfl) rfl (l' := [(63, _), (62, _), (61, _), (60, _), (59, _), (12, _), (11, _), (10, _), (1, _), (0, _), (2, _), (3, _)]) rfl ?_; intro a hf
                    refine rdT hf rfl rfl rfl rfl (by first | exact hgT6 | simp [hgT6]) (yl_load Try.underlying2 rfl rfl ⟨_, .head _, _, _, _, pt_self _ _, rfl⟩) rfl (l' := [(64, _), (63, _), (62, _), (61, _), (60, _), (59, _), (12, _), (11, _), (10, _), (1, _), (0, _), (2, _), (3, _)]) rfl ?_; intro a hf
                    refine rdT hf rfl rfl rfl rfl (by first | exact hgT6 | simp [hgT6]) (yl_move rfl) rfl (l' := [(65, _), (64, _), (63, _), (62, _), (61, _), (60, _), (59, _), (12, _), (11, _), (10, _), (1, _), (0, _), (2, _), (3, _)]) rfl ?_; intro a hf
                    refine rdT hf rfl rfl rfl rfl (by first | exact hgT6 | simp [hgT6]) (yl_move rfl) rfl (l' := [(66, _), (65, _), (64, _), (63, _), (62, _), (61, _), (60, _), (59, _), (12, _), (11, _), (10, _), (1, _), (0, _), (2, _), (3, _)]) rfl ?_; intro a hf
                    refine rdT hf rfl rfl rfl rfl (by first | exact hgT6 | simp [hgT6]) (yl_sub rfl rfl (by unfold inI64; omega)) rfl (l' := [(67, _), (66, _), (65, _), (64, _), (63, _), (62, _), (61, _), (60, _), (59, _), (12, _), (11, _), (10, _), (1, _), (0, _), (2, _), (3, _)]) rfl ?_; intro a hf
                    refine rdT hf rfl rfl rfl rfl (by first | exact hgT6 | simp [hgT6]) (yl_cmp rfl rfl rfl) rfl (l' := [(68, _), (67, _), (66, _), (65, _), (64, _), (63, _), (62, _), (61, _), (60, _), (59, _), (12, _), (11, _), (10, _), (1, _), (0, _), (2, _), (3, _)]) rfl ?_; intro a hf
                    refine rd hf rfl (yl_pickTT rfl hgT6 rfl) rfl rfl ?_; intro a hf
                    refine rd hf rfl (yl_move rfl) rfl rfl ?_; intro a hf
                    by_cases hg11 : t - wt < s.L[k].sent
                    · have hgT7 : decide (t - wt < s.L[k].sent) = true := by simpa using hg11
                      refine rdF hf rfl rfl rfl rfl (by first | exact hgT7 | simp [hgT7]) rfl (l' := [(71, _), (70, _), (69, _), (68, _), (67, _), (66, _), (65, _), (64, _), (63, _), (62, _), (61, _), (60, _), (59, _), (12, _), (11, _), (10, _), (1, _), (0, _), (2, _), (3, _)]) rfl ?_; intro a hf
                      refine efF hf rfl rfl rfl rfl (by first | exact hgT7 | simp [hgT7]) hT.allR (by simp [Nat.blt]) (l' := [(72, _), (71, _), (70, _), (69, _), (68, _), (67, _), (66, _), (65, _), (64, _), (63, _), (62, _), (61, _), (60, _), (59, _), (12, _), (11, _), (10, _), (1, _), (0, _), (2, _), (3, _)]) rfl ?_; intro a hf
                      refine rdF hf rfl rfl rfl rfl (by first | exact hgT7 | simp [hgT7]) rfl (l' := [(73, _), (72, _), (71, _), (70, _), (69, _), (68, _), (67, _), (66, _), (65, _), (64, _), (63, _), (62, _), (61, _), (60, _), (59, _), (12, _), (11, _), (10, _), (1, _), (0, _), (2, _), (3, _)]) rfl ?_; intro a hf
                      refine rdF hf rfl rfl rfl rfl (by first | exact hgT7 | simp [hgT7]) rfl (l' := [(74, _), (73, _), (72, _), (71, _), (70, _), (69, _), (68, _), (67, _), (66, _), (65, _), (64, _), (63, _), (62, _), (61, _), (60, _), (59, _), (12, _), (11, _), (10, _), (1, _), (0, _), (2, _), (3, _)]) rfl ?_; intro a hf
                      refine rd hf rfl (yl_pickTT rfl hgT7 rfl) rfl rfl ?_; intro a hf
                      refine plan_nil ?_
                      exact ⟨(hf.sel [75, 12, 11, 10, 1, 0, 2, 3] (l' := [(75, _), (12, _), (11, _), (10, _), (1, _), (0, _), (2, _), (3, _)]) rfl).fix (by have h3 : due t wt s.L[k] = false := (by simp only [due]; apply decide_eq_false; omega); simp [h3]), hT⟩
                    · have hgT7 : decide (t - wt < s.L[k].sent) = false := by simpa using hg11
                      refine rdT hf rfl rfl rfl rfl (by first | exact hgT7 | simp [hgT7]) (yl_loadB Try.underlying44 rfl sz_44 (vs := s.L[k].cells) (.head _) rfl (pt_self _ _) rfl rfl) rfl (l' := [(71, _), (70, _), (69, _), (68, _), (67, _), (66, _), (65, _), (64, _), (63, _), (62, _), (61, _), (60, _), (59, _), (12, _), (11, _), (10, _), (1, _), (0, _), (2, _), (3, _)]) rfl ?_; intro a hf
                      refine ef_call hf rfl (by rw [wanted_some hf rfl rfl rfl rfl]; first | exact beqT hgT7 | simp [hgT7]) rfl rfl (by kernel_rfl) (Spec.frame (L2 := []) (rbytes_spec s.L[k] hT)) rfl (l' := [(71, _), (70, _), (69, _), (68, _), (67, _), (66, _), (65, _), (64, _), (63, _), (62, _), (61, _), (60, _), (59, _), (12, _), (11, _), (10, _), (1, _), (0, _), (2, _), (3, _)]) rfl ?_; rintro a w v L ⟨L1, ⟨rfl, rfl⟩, rfl⟩ hf hT
                      refine rdT hf rfl rfl rfl rfl (by first | exact hgT7 | simp [hgT7]) (yl_move rfl) rfl (l' := [(73, _), (72, _), (71, _), (70, _), (69, _), (68, _), (67, _), (66, _), (65, _), (64, _), (63, _), (62, _), (61, _), (60, _), (59, _), (12, _), (11, _), (10, _), (1, _), (0, _), (2, _), (3, _)]) rfl ?_; intro a hf
                      refine rdT hf rfl rfl rfl rfl (by first | exact hgT7 | simp [hgT7]) (yl_cmp rfl rfl rfl) rfl (l' := [(74, _), (73, _), (72, _), (71, _), (70, _), (69, _), (68, _), (67, _), (66, _), (65, _), (64, _), (63, _), (62, _), (61, _), (60, _), (59, _), (12, _), (11, _), (10, _), (1, _), (0, _), (2, _), (3, _)]) rfl ?_; intro a hf
                      refine rd hf rfl (yl_pickFF rfl hgT7 rfl) rfl rfl ?_; intro a hf
                      refine plan_nil ?_
                      exact ⟨(hf.sel [75, 12, 11, 10, 1, 0, 2, 3] (l' := [(75, _), (12, _), (11, _), (10, _), (1, _), (0, _), (2, _), (3, _)]) rfl).fix (by have h3 : due t wt s.L[k] = true := (by simp only [due]; apply decide_eq_true; omega); by_cases hq : s.L[k].bytes ≤ (bf n t wt (s.L.take k)).1 <;> simp [h3, hq] <;> omega), hT⟩
                  · have hgT6 : decide (s.L[k].sent ≠ -1) = false := by simpa using hg3
                    refine rdF hf rfl rfl rfl rfl (by first | exact hgT6 | simp [hgT6]) rfl (l' := [(63, _), (62, _), (61, _), (60, _), (59, _), (12, _), (11, _), (10, _), (1, _), (0, _), (2, _), (3, _)]) rfl ?_; intro a hf
                    refine rdF hf rfl rfl rfl rfl (by first | exact hgT6 | simp [hgT6]) rfl (l' := [(64, _), (63, _), (62, _), (61, _), (60, _), (59, _), (12, _), (11, _), (10, _), (1, _), (0, _), (2, _), (3, _)]) rfl ?_; intro a hf
                    refine rdF hf rfl rfl rfl rfl (by first | exact hgT6 | simp [hgT6]) rfl (l' := [(65, _), (64, _), (63, _), (62, _), (61, _), (60, _), (59, _), (12, _), (11, _), (10, _), (1, _), (0, _), (2, _), (3, _)]) rfl ?_; intro a hf
                    refine rdF hf rfl rfl rfl rfl (by first | exact hgT6 | simp [hgT6]) rfl (l' := [(66, _), (65, _), (64, _), (63, _), (62, _), (61, _), (60, _), (59, _), (12, _), (11, _), (10, _), (1, _), (0, _), (2, _), (3, _)]) rfl ?_; intro a hf
                    refine rdF hf rfl rfl rfl rfl (by first | exact hgT6 | simp [hgT6]) rfl (l' := [(67, _), (66, _), (65, _), (64, _), (63, _), (62, _), (61, _), (60, _), (59, _), (12, _), (11, _), (10, _), (1, _), (0, _), (2, _), (3, _)]) rfl ?_; intro a hf
                    refine rdF hf rfl rfl rfl rfl (by first | exact hgT6 | simp [hgT6]) rfl (l' := [(68, _), (67, _), (66, _), (65, _), (64, _), (63, _), (62, _), (61, _), (60, _), (59, _), (12, _), (11, _), (10, _), (1, _), (0, _), (2, _), (3, _)]) rfl ?_; intro a hf
                    refine rd hf rfl (yl_pickFF rfl hgT6 rfl) rfl rfl ?_; intro a hf
                    refine rd hf rfl (yl_move rfl) rfl rfl ?_; intro a hf
                    refine rdT hf rfl rfl rfl rfl (rfl) (yl_loadB Try.underlying44 rfl sz_44 (vs := s.L[k].cells) (.head _) rfl (pt_self _ _) rfl rfl) rfl (l' := [(71, _), (70, _), (69, _), (68, _), (67, _), (66, _), (65, _), (64, _), (63, _), (62, _), (61, _), (60, _), (59, _), (12, _), (11, _), (10, _), (1, _), (0, _), (2, _), (3, _)]) rfl ?_; intro a hf
                    refine ef_call hf rfl (by rw [wanted_some hf rfl rfl rfl rfl]; first | rfl | simp | decide) rfl rfl (by kernel_rfl) (Spec.frame (L2 := []) (rbytes_spec s.L[k] hT)) rfl (l' := [(71, _), (70, _), (69, _), (68, _), (67, _), (66, _), (65, _), (64, _), (63, _), (62, _), (61, _), (60, _), (59, _), (12, _), (11, _), (10, _), (1, _), (0, _), (2, _), (3, _)]) rfl ?_; rintro a w v L ⟨L1, ⟨rfl, rfl⟩, rfl⟩ hf hT
                    refine rdT hf rfl rfl rfl rfl (rfl) (yl_move rfl) rfl (l' := [(73, _), (72, _), (71, _), (70, _), (69, _), (68, _), (67, _), (66, _), (65, _), (64, _), (63, _), (62, _), (61, _), (60, _), (59, _), (12, _), (11, _), (10, _), (1, _), (0, _), (2, _), (3, _)]) rfl ?_; intro a hf
                    refine rdT hf rfl rfl rfl rfl (rfl) (yl_cmp rfl rfl rfl) rfl (l' := [(74, _), (73, _), (72, _), (71, _), (70, _), (69, _), (68, _), (67, _), (66, _), (65, _), (64, _), (63, _), (62, _), (61, _), (60, _), (59, _), (12, _), (11, _), (10, _), (1, _), (0, _), (2, _), (3, _)]) rfl ?_; intro a hf
                    refine rd hf rfl (yl_pickFF rfl rfl rfl) rfl rfl ?_; intro a hf
                    refine plan_nil ?_
                    exact ⟨(hf.sel [75, 12, 11, 10, 1, 0, 2, 3] (l' := [(75, _), (12, _), (11, _), (10, _), (1, _), (0, _), (2, _), (3, _)]) rfl).fix (by have h3 : due t wt s.L[k] = true := (by simp only [due]; apply decide_eq_true; omega); by_cases hq : s.L[k].bytes ≤ (bf n t wt (s.L.take k)).1 <;> simp [h3, hq] <;> omega), hT⟩
                · clear hf hf0 hT; intro a w hf hT
                  refine wp_if hf rfl (fun hs => ?_) (fun hs => ?_)
                  · -- then
                    have hsend : ¬ (due t wt s.L[k] = true ∧ s.L[k].bytes ≤ (bf n t wt (s.L.take k)).1) := fun h => absurd hs (by rw [h.1, decide_eq_true h.2]; decide)
                    refine wpIn_exit ?_
                    refine then_exit ?_
                    refine inBlock_hit ?_
                    -- region 7 (ref.go:118)
                    refine wp_reg ([]) ([_, _, _, _] ++ rs) [(0, true), (1, true), (2, true)] mixed (by kernel_rfl) (hT) ?_; intro w hT
                    refine rd hf rfl (yl_move rfl) rfl rfl ?_; intro a hf
                    refine rd hf rfl (yl_add rfl rfl (by unfold inI64; omega)) rfl rfl ?_; intro a hf
                    refine rw_ hf rfl (yl_assign rfl) rfl (l' := [(11, _), (51, _), (50, _), (75, _), (12, _), (10, _), (1, _), (0, _), (2, _), (3, _)]) rfl ?_; intro a hf
                    refine plan_nil ?_
                    replace hf := hf.sel [11, 10, 1, 0, 2, 3] (l' := [(11, _), (10, _), (1, _), (0, _), (2, _), (3, _)]) rfl
                    exact ⟨(k + 1, q), _, (by have h := hf.sel [11, 10, 1, 0, 2, 3] (l' := [(11, _), (10, _), (1, _), (0, _), (2, _), (3, _)]) rfl; dsimp only; rw [hsuc, if_neg hsend]; exact h), ⟨by omega, _, _, by rw [hsuc, if_neg hsend]; exact hD, by rw [hsuc, if_neg hsend]; exact hY, rfl⟩, (hT.brings [0]).tail, by first | omega | (dsimp only; omega)⟩
                  · -- else
                    have hsend : due t wt s.L[k] = true ∧ s.L[k].bytes ≤ (bf n t wt (s.L.take k)).1 := by simpa using hs
                    refine wpIn_skip ?_
                    refine wpIn_seq ?_
                    -- region 10 (ref.go:123)
                    refine wp_reg ([]) ([_, _, _, _] ++ rs) [(0, true), (1, true), (2, false), (3, true), (4, true)] mixed (by kernel_rfl) (hT) ?_; intro w hT
                    refine rd hf rfl (yl_move rfl) rfl rfl ?_; intro a hf
                    refine rd hf rfl (yl_loadB Try.underlying44 rfl sz_44 (vs := s.L[k].cells) (.head _) rfl (pt_self _ _) rfl rfl) rfl rfl ?_; intro a hf
                    refine ef_call hf rfl (wanted_none _ _ rfl) rfl rfl (by kernel_rfl) (Spec.frame (L2 := []) (rbytes_spec s.L[k] hT)) rfl (l' := [(77, _), (76, _), (75, _), (12, _), (11, _), (10, _), (1, _), (0, _), (2, _), (3, _)]) rfl ?_; rintro a w v L ⟨L1, ⟨rfl, rfl⟩, rfl⟩ hf hT
                    refine rd hf rfl (yl_sub rfl rfl (by unfold inI64; omega)) rfl rfl ?_; intro a hf
                    refine rw_ hf rfl (yl_assign rfl) rfl (l' := [(1, _), (79, _), (78, _), (77, _), (76, _), (75, _), (12, _), (11, _), (10, _), (0, _), (2, _), (3, _)]) rfl ?_; intro a hf
                    refine plan_nil ?_
                    replace hf := hf.sel [1, 12, 11, 10, 0, 2, 3] (l' := [(1, _), (12, _), (11, _), (10, _), (0, _), (2, _), (3, _)]) rfl
                    refine wpIn_seq ?_
                    -- region 11 (ref.go:124)
                    refine wp_reg ([_]) ([_, _, _] ++ rs) [(0, false), (1, false), (2, false), (3, false), (4, false), (5, false), (6, false), (7, false), (8, false)] mixed (by kernel_rfl) (hT.brings [3]) ?_; intro w hT
                    refine ef hf hT rfl rfl (ef_read (yl_move rfl)) rfl (l' := [(1, _), (12, _), (11, _), (10, _), (0, _), (2, _), (3, _)]) rfl ?_; rintro a w v L ⟨rfl, rfl⟩ hf hT
                    refine ef hf hT rfl rfl (ef_read (yl_nil rfl)) rfl (l' := [(80, _), (1, _), (12, _), (11, _), (10, _), (0, _), (2, _), (3, _)]) rfl ?_; rintro a w v L ⟨rfl, rfl⟩ hf hT
                    refine ef hf hT rfl rfl (ef_read (yl_faddr Try.underlying68 rfl rfl sz_35 (k := 2) rfl)) rfl (l' := [(81, _), (80, _), (1, _), (12, _), (11, _), (10, _), (0, _), (2, _), (3, _)]) rfl ?_; rintro a w v L ⟨rfl, rfl⟩ hf hT
                    refine ef hf hT rfl rfl (ef_read (yl_load Try.underlying35 rfl rfl ⟨_, .tail _ (.tail _ (.tail _ (.head _))), _, _, _, pt_self _ _, rfl⟩)) rfl (l' := [(82, _), (81, _), (80, _), (1, _), (12, _), (11, _), (10, _), (0, _), (2, _), (3, _)]) rfl ?_; rintro a w v L ⟨rfl, rfl⟩ hf hT
                    refine ef hf hT rfl rfl (ef_read (yl_move rfl)) rfl (l' := [(83, _), (82, _), (81, _), (80, _), (1, _), (12, _), (11, _), (10, _), (0, _), (2, _), (3, _)]) rfl ?_; rintro a w v L ⟨rfl, rfl⟩ hf hT
                    refine ef hf hT rfl rfl (ef_read (yl_move rfl)) rfl (l' := [(84, _), (83, _), (82, _), (81, _), (80, _), (1, _), (12, _), (11, _), (10, _), (0, _), (2, _), (3, _)]) rfl ?_; rintro a w v L ⟨rfl, rfl⟩ hf hT
                    refine ef hf hT rfl rfl (ef_read (yl_indexE rfl rfl Try.underlying35 sz_44 (hY.els (.head _)) (by omega) (by omega))) rfl (l' := [(85, _), (84, _), (83, _), (82, _), (81, _), (80, _), (1, _), (12, _), (11, _), (10, _), (0, _), (2, _), (3, _)]) rfl ?_; rintro a w v L ⟨rfl, rfl⟩ hf hT
                    refine ef hf hT rfl rfl (ef_read (yl_faddr Try.underlying44 rfl rfl sz_2 rfl)) rfl (l' := [(86, _), (85, _), (84, _), (83, _), (82, _), (81, _), (80, _), (1, _), (12, _), (11, _), (10, _), (0, _), (2, _), (3, _)]) rfl ?_; rintro a w v L ⟨rfl, rfl⟩ hf hT
                    refine efS hf hT rfl rfl (ef_storeEl (E := encHld) (j := k) (f := 6) (a' := { s.L[k] with sent := t }) rfl rfl sz_2 rfl hY (hj) (by decide) rfl) ?_; rintro w L ⟨X1, hS1, rfl⟩ hT
                    refine plan_nil ?_
                    replace hf := hf.sel [1, 12, 11, 10, 0, 2, 3] (l' := [(1, _), (12, _), (11, _), (10, _), (0, _), (2, _), (3, _)]) rfl
                    -- region 12 (ref.go:125)
                    refine wp_reg ([_]) ([_, _, _] ++ rs) [(0, true), (1, true), (2, true), (3, true), (4, false), (5, false), (6, true)] mixed (by kernel_rfl) (hT.brings [2]) ?_; intro w hT
                    refine rd hf rfl (yl_move rfl) rfl rfl ?_; intro a hf
                    refine rd hf rfl (yl_faddr Try.underlying44 rfl rfl sz_31 (k := 0) rfl) rfl rfl ?_; intro a hf
                    refine rd hf rfl (yl_faddr Try.underlying31 rfl rfl sz_2 (k := 0) rfl) rfl rfl ?_; intro a hf
                    refine rd hf rfl (yl_load Try.underlying2 rfl rfl ⟨_, .tail _ (.head _), _, _, _, pt_self _ _, rfl⟩) rfl rfl ?_; intro a hf
                    refine ef hf hT rfl rfl (ef_buildSlice (E := encI) (xs := [s.L[k].r.id]) rfl rfl Try.underlying37 zs_2 rfl (by decide) rfl (by decide)) rfl (l' := [(91, _), (90, _), (89, _), (88, _), (1, _), (12, _), (11, _), (10, _), (0, _), (2, _), (3, _)]) rfl ?_; rintro a w one L ⟨b2, p1, hvp1, hp1, rfl⟩ hf hT
                    replace hT : Tot _ _ ([_, _] ++ ([_, _, _] ++ rs)) := hT.bring 1
                    refine ef hf hT rfl rfl (ef_append (E := encI) (L := [_]) rfl rfl Try.underlying37 zb_2 rfl hD (hp1.els (.tail _ (.head _))) (by simp; omega) (by simp [maxLen]; omega)) rfl (l' := [(92, _), (91, _), (90, _), (89, _), (88, _), (1, _), (12, _), (11, _), (10, _), (0, _), (2, _), (3, _)]) rfl ?_; rintro a w q2 L ⟨X2, hS2, rfl⟩ hf hT
                    refine rw_ hf rfl (yl_assign rfl) rfl (l' := [(10, _), (93, _), (92, _), (91, _), (90, _), (89, _), (88, _), (1, _), (12, _), (11, _), (0, _), (2, _), (3, _)]) rfl ?_; intro a hf
                    refine plan_nil ?_
                    replace hf := hf.sel [10, 1, 11, 0, 2, 3] (l' := [(10, _), (1, _), (11, _), (0, _), (2, _), (3, _)]) rfl
                    -- region 7 (ref.go:118)
                    refine wp_reg ([]) ([_, _, _, _, _] ++ rs) [(0, true), (1, true), (2, true)] mixed (by kernel_rfl) (hT) ?_; intro w hT
                    refine rd hf rfl (yl_move rfl) rfl rfl ?_; intro a hf
                    refine rd hf rfl (yl_add rfl rfl (by unfold inI64; omega)) rfl rfl ?_; intro a hf
                    refine rw_ hf rfl (yl_assign rfl) rfl (l' := [(11, _), (51, _), (50, _), (10, _), (1, _), (0, _), (2, _), (3, _)]) rfl ?_; intro a hf
                    refine plan_nil ?_
                    exact ⟨(k + 1, q2), _, (by have h := hf.sel [11, 10, 1, 0, 2, 3] (l' := [(11, _), (10, _), (1, _), (0, _), (2, _), (3, _)]) rfl; dsimp only; rw [hsuc, if_pos hsend]; exact h), ⟨by omega, _, _, by rw [hsuc, if_pos hsend]; exact hS2, by rw [hsuc, if_pos hsend, setSent_one hI.nd hltk hnin]; exact hS1, rfl⟩, ((hT.brings [3, 2]).tail.tail.brings [1, 2, 2]), by first | omega | (dsimp only; omega)⟩
              · -- else
                obtain rfl : k = s.L.length := by omega
                rw [List.take_length] at hD hY
                refine wpIn_exit ?_
                refine then_exit ?_
                refine then_exit ?_
                refine inBlock_hit ?_
                refine wpIn_seq ?_
                -- region 13 (ref.go:127)
                refine wp_reg ([]) ([_, _, _] ++ rs) [(0, true), (1, true), (2, true)] mixed (by kernel_rfl) (hT) ?_; intro w hT
                refine rd hf rfl (yl_move rfl) rfl rfl ?_; intro a hf
                refine rd hf rfl (yl_assign rfl) rfl rfl ?_; intro a hf
                refine rd hf rfl (yl_assign rfl) rfl rfl ?_; intro a hf
                refine plan_nil ?_
                replace hf := hf.sel [9, 8] (l' := [(9, _), (8, _)]) rfl
                refine wpIn_ret ?_
                exact body_ret hf (L := [_, _, _]) (hT) rfl rfl ⟨bst s n t wt, _, 0, q, _, _, rfl, hD, ⟨lv, _, rfl, hY⟩, rfl, .inr ⟨hnoor, rfl, rfl, rfl⟩⟩
theorem Clone_spec {e : Env} {w : World} {rs : List Part} (xs : List Int) (v0 : Value) (hE : Els encI rs v0 xs) (hlen : xs.length ≤ 1000) (hT : Tot e w rs) : Spec Try.prog 65 #[v0] e w rs (fun v L => ∃ X, Sl encI 2 v xs X ∧ L = [X]) := by
  refine spec_body Try.func65 rfl Try.ntmps65 rfl rfl ?_
  intro a hf
  obtain ⟨A, c, rfl, hA, hle⟩ := hE.shape
  refine wpIn_seq ?_
  -- region 0 (slices.go:355)
  refine wp_reg ([]) ([] ++ rs) [(0, true)] mixed (by kernel_rfl) (hT) ?_; intro w hT
  refine rd hf rfl (yl_assign rfl) rfl rfl ?_; intro a hf
  refine plan_nil ?_
  refine wpIn_seq ?_
  refine wpIn_seq ?_
  -- region 1 (slices.go:357)
  refine wp_reg ([]) ([] ++ rs) [(0, true), (1, true)] mixed (by kernel_rfl) (hT) ?_; intro w hT
  refine rd hf rfl (yl_move rfl) rfl rfl ?_; intro a hf
  refine rd hf rfl (yl_sliceNil rfl rfl Try.underlying37 rfl) rfl rfl ?_; intro a hf
  refine plan_nil ?_
  refine wp_if hf rfl (fun hnil => ?_) (fun hnil => ?_)
  · -- then
    have hx0 : xs = [] := by cases xs with | nil => rfl | cons x l => obtain ⟨b, o, h⟩ := hA (by simp); rw [h] at hnil; cases hnil
    subst hx0
    refine wpIn_seq ?_
    -- region 2 (slices.go:358)
    refine wp_reg ([]) ([] ++ rs) [(0, true)] mixed (by kernel_rfl) (hT) ?_; intro w hT
    refine rw_ hf rfl (yl_assign rfl) rfl (l' := [(2, _), (4, _), (3, _), (0, _)]) rfl ?_; intro a hf
    refine plan_nil ?_
    replace hf := hf.sel [2] (l' := [(2, _)]) rfl
    refine wpIn_ret ?_
    replace hT := hT.emp
    exact body_ret hf (L := [_]) hT rfl rfl ⟨_, sl_nil, rfl⟩
  · -- else
    refine wpIn_skip ?_
    refine wpIn_seq ?_
    -- region 3 (slices.go:362)
    refine wp_reg ([]) ([] ++ rs) [(0, false), (1, true), (2, false), (3, true)] mixed (by kernel_rfl) (hT) ?_; intro w hT
    refine ef hf hT rfl rfl (ef_buildSlice0 (E := encI) Try.underlying37 zs_2) rfl (l' := [(4, _), (3, _), (2, _), (0, _)]) rfl ?_; rintro a w e0 L ⟨b1, p1, hvp1, hp1, rfl⟩ hf hT
    refine rd hf rfl (yl_move rfl) rfl rfl ?_; intro a hf
    refine ef hf hT rfl rfl (ef_append (E := encI) (L := []) rfl rfl Try.underlying37 zb_2 rfl hp1 (hE.app) (by simp; omega) (by simp [maxLen]; omega)) rfl (l' := [(6, _), (5, _), (4, _), (3, _), (2, _), (0, _)]) rfl ?_; rintro a w q L ⟨X1, hS1, rfl⟩ hf hT
    refine rw_ hf rfl (yl_assign rfl) rfl (l' := [(2, _), (7, _), (6, _), (5, _), (4, _), (3, _), (0, _)]) rfl ?_; intro a hf
    refine plan_nil ?_
    replace hf := hf.sel [2] (l' := [(2, _)]) rfl
    refine wpIn_ret ?_
    exact body_ret hf (L := [_]) (hT) rfl rfl ⟨_, by simpa [retv] using hS1, rfl⟩
theorem CloneR_spec {e : Env} {w : World} {rs : List Part} (b : Nat) (m : List (Int × Rec)) (hM : MapIn ik encR rs b m) (hT : Tot e w rs) : Spec Try.prog 66 #[.map (some b)] e w rs (fun v L => ∃ b' X, v = .map (some b') ∧ MapL ik encR b' m X ∧ L = [X]) := by
  refine spec_body Try.func66 rfl Try.ntmps66 rfl rfl ?_
  intro a hf
  refine wpIn_seq ?_
  -- region 0 (maps.go:50)
  refine wp_reg ([]) ([] ++ rs) [(0, true)] mixed (by kernel_rfl) (hT) ?_; intro w hT
  refine rd hf rfl (yl_assign rfl) rfl rfl ?_; intro a hf
  refine plan_nil ?_
  refine wpIn_seq ?_
  refine wpIn_seq ?_
  -- region 1 (maps.go:52)
  refine wp_reg ([]) ([] ++ rs) [(0, true), (1, true)] mixed (by kernel_rfl) (hT) ?_; intro w hT
  refine rd hf rfl (yl_move rfl) rfl rfl ?_; intro a hf
  refine rd hf rfl (yl_mapNil rfl rfl Try.underlying29 rfl) rfl rfl ?_; intro a hf
  refine plan_nil ?_
  refine wp_ifFF hf rfl (rfl) ?_
  refine wpIn_skip ?_
  refine wpIn_seq ?_
  -- region 3 (maps.go:55)
  refine wp_reg ([]) ([] ++ rs) [(0, true), (1, true), (2, false), (3, true), (4, true)] mixed (by kernel_rfl) (hT) ?_; intro w hT
  refine rd hf rfl (yl_move rfl) rfl rfl ?_; intro a hf
  refine rd hf rfl (yl_makeIface rfl Try.underlying29 rfl) rfl rfl ?_; intro a hf
  refine ef hf hT rfl rfl (ef_mapsClone (encK := ik) (encV := encR) (b := b) (m := m) rfl rfl Try.func97 (by kernel_rfl) (by kernel_rfl) (by kernel_rfl) (by kernel_rfl) hM.app) rfl (l' := [(6, _), (5, _), (4, _), (3, _), (2, _), (0, _)]) rfl ?_; rintro a w v L ⟨b', X, rfl, hX, rfl⟩ hf hT
  refine rd hf rfl (yl_assertT rfl Try.underlying29 rfl) rfl rfl ?_; intro a hf
  refine rw_ hf rfl (yl_assign rfl) rfl (l' := [(2, _), (8, _), (7, _), (6, _), (5, _), (4, _), (3, _), (0, _)]) rfl ?_; intro a hf
  refine plan_nil ?_
  replace hf := hf.sel [2] (l' := [(2, _)]) rfl
  refine wpIn_ret ?_
  exact body_ret hf (L := [_]) hT rfl rfl ⟨b', X, rfl, hX, rfl⟩
theorem CloneS_spec {e : Env} {w : World} {rs : List Part} (b : Nat) (m : List (Int × Int)) (hM : MapIn ik ik rs b m) (hT : Tot e w rs) : Spec Try.prog 67 #[.map (some b)] e w rs (fun v L => ∃ b' X, v = .map (some b') ∧ MapL ik ik b' m X ∧ L = [X]) := by
  refine spec_body Try.func67 rfl Try.ntmps67 rfl rfl ?_
  intro a hf
  refine wpIn_seq ?_
  -- region 0 (maps.go:50)
  refine wp_reg ([]) ([] ++ rs) [(0, true)] mixed (by kernel_rfl) (hT) ?_; intro w hT
  refine rd hf rfl (yl_assign rfl) rfl rfl ?_; intro a hf
  refine plan_nil ?_
  refine wpIn_seq ?_
  refine wpIn_seq ?_
  -- region 1 (maps.go:52)
  refine wp_reg ([]) ([] ++ rs) [(0, true), (1, true)] mixed (by kernel_rfl) (hT) ?_; intro w hT
  refine rd hf rfl (yl_move rfl) rfl rfl ?_; intro a hf
  refine rd hf rfl (yl_mapNil rfl rfl Try.underlying103 rfl) rfl rfl ?_; intro a hf
  refine plan_nil ?_
  refine wp_ifFF hf rfl (rfl) ?_
  refine wpIn_skip ?_
  refine wpIn_seq ?_
  -- region 3 (maps.go:55)
  refine wp_reg ([]) ([] ++ rs) [(0, true), (1, true), (2, false), (3, true), (4, true)] mixed (by kernel_rfl) (hT) ?_; intro w hT
  refine rd hf rfl (yl_move rfl) rfl rfl ?_; intro a hf
  refine rd hf rfl (yl_makeIface rfl Try.underlying103 rfl) rfl rfl ?_; intro a hf
  refine ef hf hT rfl rfl (ef_mapsClone (encK := ik) (encV := ik) (b := b) (m := m) rfl rfl Try.func97 (by kernel_rfl) (by kernel_rfl) (by kernel_rfl) (by kernel_rfl) hM.app) rfl (l' := [(6, _), (5, _), (4, _), (3, _), (2, _), (0, _)]) rfl ?_; rintro a w v L ⟨b', X, rfl, hX, rfl⟩ hf hT
  refine rd hf rfl (yl_assertT rfl Try.underlying103 rfl) rfl rfl ?_; intro a hf
  refine rw_ hf rfl (yl_assign rfl) rfl (l' := [(2, _), (8, _), (7, _), (6, _), (5, _), (4, _), (3, _), (0, _)]) rfl ?_; intro a hf
  refine plan_nil ?_
  replace hf := hf.sel [2] (l' := [(2, _)]) rfl
  refine wpIn_ret ?_
  exact body_ret hf (L := [_]) hT rfl rfl ⟨b', X, rfl, hX, rfl⟩
theorem CloneT_spec {e : Env} {w : World} {rs : List Part} (b : Nat) (m : List (Int × Int)) (hM : MapIn ik ik rs b m) (hT : Tot e w rs) : Spec Try.prog 68 #[.map (some b)] e w rs (fun v L => ∃ b' X, v = .map (some b') ∧ MapL ik ik b' m X ∧ L = [X]) := by
  refine spec_body Try.func68 rfl Try.ntmps68 rfl rfl ?_
  intro a hf
  refine wpIn_seq ?_
  -- region 0 (maps.go:50)
  refine wp_reg ([]) ([] ++ rs) [(0, true)] mixed (by kernel_rfl) (hT) ?_; intro w hT
  refine rd hf rfl (yl_assign rfl) rfl rfl ?_; intro a hf
  refine plan_nil ?_
  refine wpIn_seq ?_
  refine wpIn_seq ?_
  -- region 1 (maps.go:52)
  refine wp_reg ([]) ([] ++ rs) [(0, true), (1, true)] mixed (by kernel_rfl) (hT) ?_; intro w hT
  refine rd hf rfl (yl_move rfl) rfl rfl ?_; intro a hf
  refine rd hf rfl (yl_mapNil rfl rfl Try.underlying104 rfl) rfl rfl ?_; intro a hf
  refine plan_nil ?_
  refine wp_ifFF hf rfl (rfl) ?_
  refine wpIn_skip ?_
  refine wpIn_seq ?_
  -- region 3 (maps.go:55)
  refine wp_reg ([]) ([] ++ rs) [(0, true), (1, true), (2, false), (3, true), (4, true)] mixed (by kernel_rfl) (hT) ?_; intro w hT
  refine rd hf rfl (yl_move rfl) rfl rfl ?_; intro a hf
  refine rd hf rfl (yl_makeIface rfl Try.underlying104 rfl) rfl rfl ?_; intro a hf
  refine ef hf hT rfl rfl (ef_mapsClone (encK := ik) (encV := ik) (b := b) (m := m) rfl rfl Try.func97 (by kernel_rfl) (by kernel_rfl) (by kernel_rfl) (by kernel_rfl) hM.app) rfl (l' := [(6, _), (5, _), (4, _), (3, _), (2, _), (0, _)]) rfl ?_; rintro a w v L ⟨b', X, rfl, hX, rfl⟩ hf hT
  refine rd hf rfl (yl_assertT rfl Try.underlying104 rfl) rfl rfl ?_; intro a hf
  refine rw_ hf rfl (yl_assign rfl) rfl (l' := [(2, _), (8, _), (7, _), (6, _), (5, _), (4, _), (3, _), (0, _)]) rfl ?_; intro a hf
  refine plan_nil ?_
  replace hf := hf.sel [2] (l' := [(2, _)]) rfl
  refine wpIn_ret ?_
  exact body_ret hf (L := [_]) hT rfl rfl ⟨b', X, rfl, hX, rfl⟩
theorem Copy_spec {e : Env} {w : World} {rs : List Part} (b : Nat) (s : BS) (hB : BufIn rs b s) (hlen : s.L.length ≤ 256) (hT : Tot e w rs) : Spec Try.prog 28 #[.pointer (some ⟨b, 0, none⟩)] e w rs (fun v L => ∃ b', v = .pointer (some ⟨b', 0, none⟩) ∧ BufR b' s L) := by
  refine spec_body Try.func28 rfl Try.ntmps28 rfl rfl ?_
  intro a hf
  obtain ⟨vo, hBm, hE⟩ := hB
  obtain ⟨vA, vc0, rfl, hvA, hvl⟩ := hE.shape
  have hBm0 := hBm
  obtain ⟨br, bs, bt, mr, ms, mt, hrow, hMr, hMs, hMt, hM⟩ := hBm
  refine wpIn_seq ?_
  -- region 0 (buffer.go:216)
  refine wp_reg ([]) ([] ++ rs) [(0, true)] mixed (by kernel_rfl) (hT) ?_; intro w hT
  refine rd hf rfl (yl_assign rfl) rfl rfl ?_; intro a hf
  refine plan_nil ?_
  refine wpIn_seq ?_
  refine wpIn_seq ?_
  -- region 1 (buffer.go:217)
  refine wp_reg ([]) ([] ++ rs) [(0, true), (1, false), (2, true)] mixed (by kernel_rfl) (hT) ?_; intro w hT
  refine rd hf rfl (yl_move rfl) rfl rfl ?_; intro a hf
  refine ef_call hf rfl (wanted_none _ _ rfl) rfl rfl (by kernel_rfl) (Spec.frame (L2 := []) (valid_spec b s _ hBm0.app hT)) rfl (l' := [(4, _), (2, _), (0, _)]) rfl ?_; rintro a w v L ⟨L1, ⟨rfl, rfl⟩, rfl⟩ hf hT
  refine rd hf rfl (yl_not rfl) rfl rfl ?_; intro a hf
  refine plan_nil ?_
  replace hf := hf.sel [6, 0] (l' := [(6, _), (0, _)]) rfl
  refine wp_ifFF hf rfl (rfl) ?_
  refine wpIn_skip ?_
  refine wpIn_seq ?_
  -- region 3 (buffer.go:220)
  refine wp_reg ([]) ([] ++ rs) [(0, true), (1, true), (2, true), (3, false), (4, false)] mixed (by kernel_rfl) (hT) ?_; intro w hT
  refine rd hf rfl (yl_move rfl) rfl rfl ?_; intro a hf
  refine rd hf rfl (yl_nil rfl) rfl rfl ?_; intro a hf
  refine rd hf rfl (yl_loadA Try.underlying106 rfl sz_106 rfl (RowIn.part (fun j u hj => (hrow j u hj).app) 0 7) rfl) rfl rfl ?_; intro a hf
  refine ef hf hT rfl rfl (ef_alloc zr_106) rfl (l' := [(9, _), (8, _), (7, _), (6, _), (0, _)]) rfl ?_; rintro a w v L ⟨b1, rfl, rfl⟩ hf hT
  refine efS hf hT rfl rfl (ef_storeW rfl rfl sz_106 rfl rfl rfl) ?_; rintro w L rfl hT
  refine plan_nil ?_
  replace hf := hf.sel [3, 0] (l' := [(3, _), (0, _)]) rfl
  refine wpIn_seq ?_
  -- region 4 (buffer.go:221)
  refine wp_reg ([_]) ([] ++ rs) [(0, true), (1, true), (2, true), (3, true), (4, false), (5, true), (6, false)] mixed (by kernel_rfl) (hT.brings [0]) ?_; intro w hT
  refine rd hf rfl (yl_move rfl) rfl rfl ?_; intro a hf
  refine rd hf rfl (yl_nil rfl) rfl rfl ?_; intro a hf
  refine rd hf rfl (yl_faddr Try.underlying106 rfl rfl sz_37 (k := 3) rfl) rfl rfl ?_; intro a hf
  refine rd hf rfl (yl_load Try.underlying37 rfl rfl (hrow 3 _ rfl).app) rfl rfl ?_; intro a hf
  refine ef_call hf rfl (wanted_none _ _ rfl) rfl rfl (by kernel_rfl) (Spec.frame (L2 := [_]) (Clone_spec (ids s.L) _ hE.app (by simp [ids]; omega) hT)) rfl (l' := [(13, _), (12, _), (11, _), (10, _), (3, _), (0, _)]) rfl ?_; rintro a w vc L ⟨L1, ⟨XO, hO, rfl⟩, rfl⟩ hf hT
  refine rd hf rfl (yl_faddr Try.underlying106 rfl rfl sz_37 (k := 3) rfl) rfl rfl ?_; intro a hf
  replace hT : Tot _ _ ([_, _] ++ ([] ++ rs)) := hT.bring 1
  refine efS hf hT rfl rfl (ef_store rfl rfl sz_37 hO.one rfl) ?_; rintro w L rfl hT
  refine plan_nil ?_
  replace hf := hf.sel [3, 0] (l' := [(3, _), (0, _)]) rfl
  refine wpIn_seq ?_
  -- region 5 (buffer.go:222)
  refine wp_reg ([_]) ([_] ++ rs) [(0, true), (1, true), (2, true), (3, true), (5, true), (6, true), (7, true), (8, true), (10, true), (11, true), (12, true), (13, true), (4, false), (9, false), (14, false), (15, true), (16, false), (17, true), (18, false), (19, true), (20, false)] mixed (by kernel_rfl) (hT.brings [0]) ?_; intro w hT
  refine rd hf rfl (yl_move rfl) rfl rfl ?_; intro a hf
  refine rd hf rfl (yl_nil rfl) rfl rfl ?_; intro a hf
  refine rd hf rfl (yl_faddr Try.underlying106 rfl rfl sz_29 (k := 4) rfl) rfl rfl ?_; intro a hf
  refine rd hf rfl (yl_load Try.underlying29 rfl rfl (hrow 4 _ rfl).app) rfl rfl ?_; intro a hf
  refine rd hf rfl (yl_move rfl) rfl rfl ?_; intro a hf
  refine rd hf rfl (yl_nil rfl) rfl rfl ?_; intro a hf
  refine rd hf rfl (yl_faddr Try.underlying106 rfl rfl sz_103 (k := 5) rfl) rfl rfl ?_; intro a hf
  refine rd hf rfl (yl_load Try.underlying103 rfl rfl (hrow 5 _ rfl).app) rfl rfl ?_; intro a hf
  refine rd hf rfl (yl_move rfl) rfl rfl ?_; intro a hf
  refine rd hf rfl (yl_nil rfl) rfl rfl ?_; intro a hf
  refine rd hf rfl (yl_faddr Try.underlying106 rfl rfl sz_104 (k := 6) rfl) rfl rfl ?_; intro a hf
  refine rd hf rfl (yl_load Try.underlying104 rfl rfl (hrow 6 _ rfl).app) rfl rfl ?_; intro a hf
  refine ef_call hf rfl (wanted_none _ _ rfl) rfl rfl (by kernel_rfl) (Spec.frame (L2 := [_]) (CloneR_spec br mr hMr.app.app hT)) rfl (l' := [(29, _), (28, _), (27, _), (26, _), (24, _), (23, _), (22, _), (21, _), (19, _), (18, _), (17, _), (16, _), (3, _), (0, _)]) rfl ?_; rintro a w v L ⟨L1, ⟨c1, Z1, rfl, hZ1, rfl⟩, rfl⟩ hf hT
  refine ef_call hf rfl (wanted_none _ _ rfl) rfl rfl (by kernel_rfl) (Spec.frame (L2 := [_, _]) (CloneS_spec bs ms hMs.app.app hT)) rfl (l' := [(20, _), (29, _), (28, _), (27, _), (26, _), (24, _), (23, _), (22, _), (21, _), (19, _), (18, _), (17, _), (16, _), (3, _), (0, _)]) rfl ?_; rintro a w v L ⟨L1, ⟨c2, Z2, rfl, hZ2, rfl⟩, rfl⟩ hf hT
  refine ef_call hf rfl (wanted_none _ _ rfl) rfl rfl (by kernel_rfl) (Spec.frame (L2 := [_, _, _]) (CloneT_spec bt mt hMt.app.app hT)) rfl (l' := [(25, _), (20, _), (29, _), (28, _), (27, _), (26, _), (24, _), (23, _), (22, _), (21, _), (19, _), (18, _), (17, _), (16, _), (3, _), (0, _)]) rfl ?_; rintro a w v L ⟨L1, ⟨c3, Z3, rfl, hZ3, rfl⟩, rfl⟩ hf hT
  refine rd hf rfl (yl_faddr Try.underlying106 rfl rfl sz_29 (k := 4) rfl) rfl rfl ?_; intro a hf
  replace hT : Tot _ _ ([_, _, _, _] ++ ([_] ++ rs)) := hT.bring 3
  refine efS hf hT rfl rfl (ef_store rfl rfl sz_29 rfl rfl) ?_; rintro w L rfl hT
  refine rd hf rfl (yl_faddr Try.underlying106 rfl rfl sz_103 (k := 5) rfl) rfl rfl ?_; intro a hf
  refine efS hf hT rfl rfl (ef_store rfl rfl sz_103 rfl rfl) ?_; rintro w L rfl hT
  refine rd hf rfl (yl_faddr Try.underlying106 rfl rfl sz_104 (k := 6) rfl) rfl rfl ?_; intro a hf
  refine efS hf hT rfl rfl (ef_store rfl rfl sz_104 rfl rfl) ?_; rintro w L rfl hT
  refine plan_nil ?_
  replace hf := hf.sel [3] (l' := [(3, _)]) rfl
  refine wpIn_seq ?_
  -- region 6 (buffer.go:223)
  refine wp_reg ([]) ([_, _, _, _, _] ++ rs) [(0, true)] mixed (by kernel_rfl) (hT) ?_; intro w hT
  refine rd hf rfl (yl_assign rfl) rfl rfl ?_; intro a hf
  refine plan_nil ?_
  refine wpIn_ret ?_
  exact body_ret hf (L := [_, _, _, _, _]) ((hT.brings [1, 2, 3, 3, 4])) rfl rfl ⟨b1, rfl, vc, _, _, rfl, hO, c1, _, c2, _, c3, _, _, _, _, rfl, hZ1, hZ2, hZ3, hM⟩
structure Ac where
  kind : Int
  r : Rec
  n : Int
  t : Int
  wt : Int
  A : Option Addr
  len : Nat
  c : Nat
def Ac.sv (x : Ac) : Value := .slice x.A x.len x.c
def Ac.cells (x : Ac) : List Value := [.int .u8 x.kind, .int .i64 x.r.id, .int .i64 x.r.cls, .int .i64 x.r.made, .int .i64 x.r.size, .int .i64 x.r.packed, .int .i64 x.n, .int .i64 x.t, .int .i64 x.wt, x.sv]
def encAc : Enc Ac := ⟨Ac.cells, 10, fun _ => rfl, fun a u h => by simp [Ac.cells] at h; rcases h with rfl | rfl | rfl | rfl | rfl | rfl | rfl | rfl | rfl | rfl <;> rfl, by decide⟩
def Ac.Ok (R : List Part) (x : Ac) : Prop := (0 ≤ x.kind ∧ x.kind ≤ 255) ∧ ∃ S, Els encSp R x.sv S
theorem long_spec {e : Env} {w : World} {rs : List Part} (xs : List Ac) (m : Int) (v0 : Value) (hE : Els encAc rs v0 xs) (hT : Tot e w rs) : Spec Try.prog 22 #[v0, .int .i64 m] e w rs (fun v L => ∃ r : Bool, v = .bool r ∧ (r = false → (xs.length : Int) ≤ m ∧ ∀ a ∈ xs, a.len ≤ 30) ∧ L = []) := by
  refine spec_body Try.func22 rfl Try.ntmps22 rfl rfl ?_
  intro a hf
  refine wpIn_seq ?_
  -- region 0 (law.go:39)
  refine wp_reg ([]) ([] ++ rs) [(0, true)] mixed (by kernel_rfl) (hT) ?_; intro w hT
  refine rd hf rfl (yl_assign rfl) rfl rfl ?_; intro a hf
  refine plan_nil ?_
  refine wpIn_seq ?_
  refine wpIn_seq ?_
  -- region 1 (law.go:40)
  refine wp_reg ([]) ([] ++ rs) [(0, true), (1, true), (2, true), (3, true)] mixed (by kernel_rfl) (hT) ?_; intro w hT
  refine rd hf rfl (yl_move rfl) rfl rfl ?_; intro a hf
  refine rd hf rfl (yl_lenE rfl Try.underlying53 hE.app) rfl rfl ?_; intro a hf
  refine rd hf rfl (yl_move rfl) rfl rfl ?_; intro a hf
  refine rd hf rfl (yl_cmp rfl rfl rfl) rfl rfl ?_; intro a hf
  refine plan_nil ?_
  replace hf := hf.sel [9, 0] (l' := [(9, _), (0, _)]) rfl
  refine wp_ifd hf rfl (fun hmany => ?_) (fun hmany => ?_)
  · -- then
    refine wpIn_seq ?_
    -- region 2 (law.go:41)
    refine wp_reg ([]) ([] ++ rs) [(0, true)] mixed (by kernel_rfl) (hT) ?_; intro w hT
    refine rd hf rfl (yl_assign rfl) rfl rfl ?_; intro a hf
    refine plan_nil ?_
    refine wpIn_ret ?_
    exact body_ret hf (L := []) hT rfl rfl ⟨_, rfl, (fun h => by cases h), rfl⟩
  · -- else
    refine wpIn_skip ?_
    refine wpIn_seq ?_
    refine wpIn_seq ?_
    -- region 3 (law.go:43)
    refine wp_reg ([]) ([] ++ rs) [(0, true)] mixed (by kernel_rfl) (hT) ?_; intro w hT
    refine rd hf rfl (yl_assign rfl) rfl rfl ?_; intro a hf
    refine plan_nil ?_
    refine wpIn_block ?_
    have hlen := hE.len_le
    refine wp_loopS (σ := Nat) (fun k => [(5, .int .i64 (k : Nat))]) [(0, _)] (fun k L => L = [] ∧ k ≤ xs.length ∧ ∀ j (h : j < xs.length), j < k → xs[j].len ≤ 30) (fun k => xs.length - k) 0 (L := []) (R := [] ++ rs) (hf.sel [5, 0] rfl) (⟨rfl, Nat.zero_le _, fun j h hj => absurd hj (Nat.not_lt_zero _)⟩) hT ?_
    clear hf hT; rintro k a w L hf ⟨rfl, hk, ho⟩ hT
    replace hf : Fr _ [(5, .int .i64 (k : Nat)), (0, _)] _ _ := hf
    refine wpIn_seq ?_
    refine wpIn_seq ?_
    -- region 4 (law.go:43)
    refine wp_reg ([]) ([] ++ rs) [(0, true), (1, true), (2, true), (3, true)] mixed (by kernel_rfl) (hT) ?_; intro w hT
    refine rd hf rfl (yl_move rfl) rfl rfl ?_; intro a hf
    refine rd hf rfl (yl_move rfl) rfl rfl ?_; intro a hf
    refine rd hf rfl (yl_lenE rfl Try.underlying53 hE.app) rfl rfl ?_; intro a hf
    refine rd hf rfl (yl_cmp rfl rfl rfl) rfl rfl ?_; intro a hf
    refine plan_nil ?_
    replace hf := hf.sel [13, 5, 0] (l' := [(13, _), (5, _), (0, _)]) rfl
    refine wp_ifd hf rfl (fun hlt => ?_) (fun hlt => ?_)
    · -- then
      have hltk : k < xs.length := by omega
      have hj : xs[k]? = some xs[k] := List.getElem?_eq_getElem hltk
      refine wpIn_skip ?_
      refine wpIn_seq ?_
      refine wpIn_block ?_
      refine wpIn_seq ?_
      -- region 6 (law.go:44)
      refine wp_reg ([]) ([] ++ rs) [(0, true), (1, true), (2, true), (3, true), (4, true), (5, true), (6, true)] mixed (by kernel_rfl) (hT) ?_; intro w hT
      refine rd hf rfl (yl_move rfl) rfl rfl ?_; intro a hf
      refine rd hf rfl (yl_move rfl) rfl rfl ?_; intro a hf
      refine rd hf rfl (yl_indexE rfl rfl Try.underlying53 sz_60 hE.app (by omega) (by omega)) rfl rfl ?_; intro a hf
      refine rd hf rfl (yl_faddr Try.underlying60 rfl rfl sz_58 rfl) rfl rfl ?_; intro a hf
      refine rd hf rfl (yl_load Try.underlying58 rfl rfl (hE.app.cell hj (f := 9) rfl)) rfl rfl ?_; intro a hf
      refine rd hf rfl (yl_len rfl Try.underlying58) rfl rfl ?_; intro a hf
      refine rd hf rfl (yl_cmp rfl rfl rfl) rfl rfl ?_; intro a hf
      refine plan_nil ?_
      replace hf := hf.sel [22, 5, 0] (l' := [(22, _), (5, _), (0, _)]) rfl
      refine wp_ifd hf rfl (fun hl => ?_) (fun hl => ?_)
      · -- then
        refine wpIn_seq ?_
        -- region 7 (law.go:45)
        refine wp_reg ([]) ([] ++ rs) [(0, true)] mixed (by kernel_rfl) (hT) ?_; intro w hT
        refine rd hf rfl (yl_assign rfl) rfl rfl ?_; intro a hf
        refine plan_nil ?_
        replace hf := hf.sel [4] (l' := [(4, _)]) rfl
        refine wpIn_ret ?_
        exact body_ret hf (L := []) hT rfl rfl ⟨_, rfl, (fun h => by cases h), rfl⟩
      · -- else
        refine wpIn_skip ?_
        -- region 5 (law.go:43)
        refine wp_reg ([]) ([] ++ rs) [(0, true), (1, true), (2, true)] mixed (by kernel_rfl) (hT) ?_; intro w hT
        refine rd hf rfl (yl_move rfl) rfl rfl ?_; intro a hf
        refine rd hf rfl (yl_add rfl rfl (by unfold inI64; omega)) rfl rfl ?_; intro a hf
        refine rw_ hf rfl (yl_assign rfl) rfl (l' := [(5, _), (15, _), (14, _), (22, _), (0, _)]) rfl ?_; intro a hf
        refine plan_nil ?_
        replace hf := hf.sel [5, 0] (l' := [(5, _), (0, _)]) rfl
        exact ⟨k + 1, _, hf.sel [5, 0] rfl, ⟨rfl, by omega, fun j h hj => by by_cases hjk : j = k; subst hjk; omega; exact ho j h (by omega)⟩, hT, by first | omega | (dsimp only; omega)⟩
    · -- else
      obtain rfl : k = xs.length := by omega
      refine wpIn_exit ?_
      refine then_exit ?_
      refine then_exit ?_
      refine inBlock_hit ?_
      refine wpIn_seq ?_
      -- region 8 (law.go:48)
      refine wp_reg ([]) ([] ++ rs) [(0, true)] mixed (by kernel_rfl) (hT) ?_; intro w hT
      refine rd hf rfl (yl_assign rfl) rfl rfl ?_; intro a hf
      refine plan_nil ?_
      replace hf := hf.sel [4] (l' := [(4, _)]) rfl
      refine wpIn_ret ?_
      exact body_ret hf (L := []) hT rfl rfl ⟨_, rfl, (fun _ => ⟨by omega, fun a ha => by obtain ⟨j, hj, rfl⟩ := List.getElem_of_mem ha; exact ho j hj hj⟩), rfl⟩
theorem longs_spec {e : Env} {w : World} {rs : List Part} (xs : List Int) (v0 v1 : Value) (hE : Els encI rs v0 xs) (hE1 : Els encI rs v1 xs) (hT : Tot e w rs) : Spec Try.prog 29 #[v0, v1] e w rs (fun v L => v = .bool true ∧ L = []) := by
  refine spec_body Try.func29 rfl Try.ntmps29 rfl rfl ?_
  intro a hf
  refine wpIn_seq ?_
  -- region 0 (law.go:52)
  refine wp_reg ([]) ([] ++ rs) [(0, true)] mixed (by kernel_rfl) (hT) ?_; intro w hT
  refine rd hf rfl (yl_assign rfl) rfl rfl ?_; intro a hf
  refine plan_nil ?_
  refine wpIn_seq ?_
  refine wpIn_seq ?_
  -- region 1 (law.go:53)
  refine wp_reg ([]) ([] ++ rs) [(0, true), (1, true), (2, true), (3, true), (4, true)] mixed (by kernel_rfl) (hT) ?_; intro w hT
  refine rd hf rfl (yl_move rfl) rfl rfl ?_; intro a hf
  refine rd hf rfl (yl_lenE rfl Try.underlying37 hE.app) rfl rfl ?_; intro a hf
  refine rd hf rfl (yl_move rfl) rfl rfl ?_; intro a hf
  refine rd hf rfl (yl_lenE rfl Try.underlying37 hE1.app) rfl rfl ?_; intro a hf
  refine rd hf rfl (yl_cmp rfl rfl rfl) rfl rfl ?_; intro a hf
  refine plan_nil ?_
  replace hf := hf.sel [10, 0, 1] (l' := [(10, _), (0, _), (1, _)]) rfl
  refine wp_ifd hf rfl (fun hne => ?_) (fun hne => ?_)
  · -- then
    exact absurd rfl hne
  · -- else
    refine wpIn_skip ?_
    refine wpIn_seq ?_
    refine wpIn_seq ?_
    -- region 3 (law.go:56)
    refine wp_reg ([]) ([] ++ rs) [(0, true)] mixed (by kernel_rfl) (hT) ?_; intro w hT
    refine rd hf rfl (yl_assign rfl) rfl rfl ?_; intro a hf
    refine plan_nil ?_
    refine wpIn_block ?_
    have hlen := hE.len_le
    refine wp_loopS (σ := Nat) (fun k => [(5, .int .i64 (k : Nat))]) [(0, _), (1, _)] (fun k L => L = [] ∧ k ≤ xs.length) (fun k => xs.length - k) 0 (L := []) (R := [] ++ rs) (hf.sel [5, 0, 1] rfl) (⟨rfl, Nat.zero_le _⟩) hT ?_
    clear hf hT; rintro k a w L hf ⟨rfl, hk⟩ hT
    replace hf : Fr _ [(5, .int .i64 (k : Nat)), (0, _), (1, _)] _ _ := hf
    refine wpIn_seq ?_
    refine wpIn_seq ?_
    -- region 4 (law.go:56)
    refine wp_reg ([]) ([] ++ rs) [(0, true), (1, true), (2, true), (3, true)] mixed (by kernel_rfl) (hT) ?_; intro w hT
    refine rd hf rfl (yl_move rfl) rfl rfl ?_; intro a hf
    refine rd hf rfl (yl_move rfl) rfl rfl ?_; intro a hf
    refine rd hf rfl (yl_lenE rfl Try.underlying37 hE.app) rfl rfl ?_; intro a hf
    refine rd hf rfl (yl_cmp rfl rfl rfl) rfl rfl ?_; intro a hf
    refine plan_nil ?_
    replace hf := hf.sel [14, 5, 0, 1] (l' := [(14, _), (5, _), (0, _), (1, _)]) rfl
    refine wp_ifd hf rfl (fun hlt => ?_) (fun hlt => ?_)
    · -- then
      have hltk : k < xs.length := by omega
      have hj : xs[k]? = some xs[k] := List.getElem?_eq_getElem hltk
      refine wpIn_skip ?_
      refine wpIn_seq ?_
      refine wpIn_block ?_
      refine wpIn_seq ?_
      -- region 6 (law.go:57)
      refine wp_reg ([]) ([] ++ rs) [(0, true), (1, true), (2, true), (3, true), (4, true), (5, true), (6, true), (7, true), (8, true)] mixed (by kernel_rfl) (hT) ?_; intro w hT
      refine rd hf rfl (yl_move rfl) rfl rfl ?_; intro a hf
      refine rd hf rfl (yl_move rfl) rfl rfl ?_; intro a hf
      refine rd hf rfl (yl_indexE rfl rfl Try.underlying37 sz_2 hE.app (by omega) (by omega)) rfl rfl ?_; intro a hf
      refine rd hf rfl (yl_load Try.underlying2 rfl rfl (hE.app.cell hj (f := 0) rfl)) rfl rfl ?_; intro a hf
      refine rd hf rfl (yl_move rfl) rfl rfl ?_; intro a hf
      refine rd hf rfl (yl_move rfl) rfl rfl ?_; intro a hf
      refine rd hf rfl (yl_indexE rfl rfl Try.underlying37 sz_2 hE1.app (by omega) (by omega)) rfl rfl ?_; intro a hf
      refine rd hf rfl (yl_load Try.underlying2 rfl rfl (hE1.app.cell hj (f := 0) rfl)) rfl rfl ?_; intro a hf
      refine rd hf rfl (yl_cmp rfl rfl rfl) rfl rfl ?_; intro a hf
      refine plan_nil ?_
      replace hf := hf.sel [25, 5, 0, 1] (l' := [(25, _), (5, _), (0, _), (1, _)]) rfl
      refine wp_ifd hf rfl (fun hd => ?_) (fun hd => ?_)
      · -- then
        exact absurd rfl hd
      · -- else
        refine wpIn_skip ?_
        -- region 5 (law.go:56)
        refine wp_reg ([]) ([] ++ rs) [(0, true), (1, true), (2, true)] mixed (by kernel_rfl) (hT) ?_; intro w hT
        refine rd hf rfl (yl_move rfl) rfl rfl ?_; intro a hf
        refine rd hf rfl (yl_add rfl rfl (by unfold inI64; omega)) rfl rfl ?_; intro a hf
        refine rw_ hf rfl (yl_assign rfl) rfl (l' := [(5, _), (16, _), (15, _), (25, _), (0, _), (1, _)]) rfl ?_; intro a hf
        refine plan_nil ?_
        replace hf := hf.sel [5, 0, 1] (l' := [(5, _), (0, _), (1, _)]) rfl
        exact ⟨k + 1, _, hf.sel [5, 0, 1] rfl, ⟨rfl, by omega⟩, hT, by first | omega | (dsimp only; omega)⟩
    · -- else
      refine wpIn_exit ?_
      refine then_exit ?_
      refine then_exit ?_
      refine inBlock_hit ?_
      refine wpIn_seq ?_
      -- region 8 (law.go:61)
      refine wp_reg ([]) ([] ++ rs) [(0, true)] mixed (by kernel_rfl) (hT) ?_; intro w hT
      refine rd hf rfl (yl_assign rfl) rfl rfl ?_; intro a hf
      refine plan_nil ?_
      replace hf := hf.sel [4] (l' := [(4, _)]) rfl
      refine wpIn_ret ?_
      exact body_ret hf (L := []) hT rfl rfl ⟨rfl, rfl⟩
end Go.Proofs.Ytjhbgciocffihaa
