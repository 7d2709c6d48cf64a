-- written by gen.py out of walks texts of my own
import Derived.Test.YtjhbgciocffihaaB4
set_option linter.unusedVariables false
set_option linter.unusedSimpArgs false
set_option maxHeartbeats 4000000
namespace Go.Proofs.Ytjhbgciocffihaa
theorem inBlock_ret {id : Nat} {Q : Exit → Act → World → Prop} {a : Act} {w : World} (h : Q .ret a w) : Exit.inBlock id Q .ret a w := h
theorem inBlock_norm {id : Nat} {Q : Exit → Act → World → Prop} {a : Act} {w : World} (h : Q .normal a w) : Exit.inBlock id Q .normal a w := h
theorem then_ret {K : Act → World → Prop} {Q : Exit → Act → World → Prop} {a : Act} {w : World} (h : Q .ret a w) : Exit.then K Q .ret a w := h
theorem Els.cells1 {α : Type} {E : Enc α} {R : List Part} {v : Value} {xs : List α} (h : Els E R v xs) : v.cells = #[v] := by
  obtain ⟨A, c, rfl, _⟩ := h.shape; rfl
def Hld.sq (h : Hld) : Bool := !h.small && decide (h.r.packed < h.r.size)
def mark (L : List Hld) (k : Int) : List Hld := L.map fun h => if h.r.id = k then { h with small := true } else h
def squeeze (L : List Hld) : Option Hld := L.reverse.find? Hld.sq
theorem fnd_mark (L : List Hld) (k j : Int) : fnd (mark L k) j = (fnd L j).map fun h => if h.r.id = k then { h with small := true } else h := by
  induction L with
  | nil => rfl
  | cons x L ih =>
    have e0 : (if x.r.id = k then { x with small := true } else x).r.id = x.r.id := by split <;> rfl
    by_cases hx : x.r.id = j
    · have e1 : fnd (x :: L) j = some x := by simp [fnd, hx]
      have e2 : fnd (mark (x :: L) k) j = some (if x.r.id = k then { x with small := true } else x) := by
        simp only [mark, List.map_cons, fnd]
        rw [List.find?_cons_of_pos (by show decide ((if _ then _ else _ : Hld).r.id = j) = true; rw [e0]; simp [hx])]
      rw [e1, e2]; rfl
    · have e1 : fnd (x :: L) j = fnd L j := by simp [fnd, hx]
      have e2 : fnd (mark (x :: L) k) j = fnd (mark L k) j := by
        simp only [mark, List.map_cons, fnd]
        rw [List.find?_cons_of_neg (by show ¬ decide ((if _ then _ else _ : Hld).r.id = j) = true; rw [e0]; simp [hx])]
      rw [e1, e2, ih]
theorem Maps.mark {L : List Hld} {mr : List (Int × Rec)} {ms mt : List (Int × Int)} (h : Maps L mr ms mt) {k : Int} {x : Hld} (hx : fnd L k = some x) : Maps (Ytjhbgciocffihaa.mark L k) mr (upd ms k 1) mt := by
  refine ⟨fun j => ?_, fun j => ?_, fun j => ?_⟩
  · rw [fnd_mark, h.r]; cases fnd L j <;> simp; split <;> rfl
  · rw [fnd_mark, assoc_upd]
    by_cases hj : j = k
    · subst hj; have := (fnd_mem hx).2; simp [hx, this, Hld.sm]
    · rw [if_neg hj, h.s]
      cases hq : fnd L j with
      | none => rfl
      | some y => have := (fnd_mem hq).2; simp [show ¬ y.r.id = k from fun e => hj (this.symm.trans e)]
  · rw [fnd_mark, h.t]; cases fnd L j <;> simp; split <;> rfl
theorem ids_mark (L : List Hld) (k : Int) : ids (mark L k) = ids L := by
  simp only [ids, mark, List.map_map]; apply List.map_congr_left; intro x hx; simp only [Function.comp]; split <;> rfl
theorem squeeze_at {L : List Hld} {i : Nat} (hi : i < L.length) (hb : ∀ x ∈ L.reverse.take i, x.sq = false) (h : (L[L.length - 1 - i]'(by omega)).sq = true) : squeeze L = some (L[L.length - 1 - i]'(by omega)) := by
  have e : L.reverse = L.reverse.take i ++ L.reverse.drop i := (List.take_append_drop ..).symm
  have hi2 : i < L.reverse.length := by simpa using hi
  unfold squeeze
  rw [e, List.find?_append, List.find?_eq_none.2 (fun x hx => by simp [hb x hx]), List.drop_eq_getElem_cons hi2]
  simp only [Option.none_or, List.getElem_reverse]
  rw [List.find?_cons, h]
theorem squeeze_none {L : List Hld} (hb : ∀ x ∈ L.reverse.take L.length, x.sq = false) : squeeze L = none := by
  unfold squeeze
  rw [List.find?_eq_none]
  intro x hx
  rw [List.take_of_length_le (by simp)] at hb
  simp [hb x hx]
theorem squeeze_step {L : List Hld} {i : Nat} (hi : i < L.length) (hb : ∀ x ∈ L.reverse.take i, x.sq = false) (h : (L[L.length - 1 - i]'(by omega)).sq = false) : ∀ x ∈ L.reverse.take (i + 1), x.sq = false := by
  have hi2 : i < L.reverse.length := by simpa using hi
  rw [List.take_succ_eq_append_getElem hi2]
  intro x hx
  rcases List.mem_append.1 hx with hx | hx
  · exact hb x hx
  · rw [List.mem_singleton.1 hx, List.getElem_reverse]; exact h
theorem bvals_inv {xs : List Int} {i : Nat} {u : List Value} (h : (bvals xs)[i]? = some u) : ∃ hi : i < xs.length, u = [.int .i64 ((xs.length - 1 - i : Nat) : Int), .int .i64 (xs[xs.length - 1 - i]'(by omega))] := by
  have hi : i < xs.length := by have := (List.getElem?_eq_some_iff.1 h).1; simpa [bvals] using this
  refine ⟨hi, ?_⟩
  have := bvals_get hi (y := xs[xs.length - 1 - i]'(by omega)) (List.getElem?_eq_getElem _)
  rw [this] at h; exact (Option.some.inj h).symm
theorem bvals_len {xs : List Int} : ∀ u ∈ bvals xs, u.length = 2 := by
  intro u hu
  obtain ⟨k, _, rfl⟩ := List.mem_map.1 hu
  rfl
theorem compress_spec {e : Env} {w : World} {rs : List Part} (b : Nat) (s : BS) (vo : Value) (Lb : List Part) (hB : BufM b s vo Lb) (hE : Els encI rs vo (ids s.L)) (hnd : (ids s.L).Nodup) (hok : ∀ h ∈ s.L, h.r.Ok) (hu : 0 ≤ s.used ∧ s.used ≤ 1099511627776) (hT : Tot e w (Lb ++ rs)) : Spec Try.prog 52 #[.pointer (some ⟨b, 0, none⟩)] e w rs (fun v L => match squeeze s.L with | some h => v = .bool true ∧ BufM b { s with used := s.used - (h.r.size - h.r.packed), L := mark s.L h.r.id } vo L | none => v = .bool false ∧ BufM b s vo L) := by
  refine spec_body Try.func52 rfl Try.ntmps52 rfl rfl ?_
  intro a hf
  have hB0 := hB
  obtain ⟨br, xr, bs, xs, bt, xt, mr, ms, mt, rfl, hMr, hMs, hMt, hM⟩ := hB
  refine wpIn_seq ?_
  -- region 0 (buffer.go:92)
  refine wp_reg ([]) ([_, _, _, _] ++ rs) [(0, false), (1, false)] mixed (by kernel_rfl) (hT) ?_; intro w hT
  refine ef hf hT rfl rfl (ef_box rfl) rfl (l' := [(0, _)]) rfl ?_; rintro a w v L ⟨b1, rfl, rfl⟩ hf hT
  refine ef hf hT rfl rfl (ef_alloc zr_4) rfl (l' := [(1, _), (0, _)]) rfl ?_; rintro a w v L ⟨b2, rfl, rfl⟩ hf hT
  refine plan_nil ?_
  refine wpIn_seq ?_
  refine wpIn_seq ?_
  -- region 1 (buffer.go:93)
  refine wp_reg ([]) ([_, _, _, _, _, _] ++ rs) [(0, true), (1, true), (2, true), (3, true), (4, false)] mixed (by kernel_rfl) (hT) ?_; intro w hT
  refine rd hf rfl (yl_load Try.underlying25 rfl rfl ⟨_, .tail _ (.head _), _, _, _, pt_self _ _, rfl⟩) rfl rfl ?_; intro a hf
  refine rd hf rfl (yl_nil rfl) rfl rfl ?_; intro a hf
  refine rd hf rfl (yl_faddr Try.underlying106 rfl rfl sz_37 (k := 3) rfl) rfl rfl ?_; intro a hf
  refine rd hf rfl (yl_load Try.underlying37 rfl rfl ⟨_, .tail _ (.tail _ (.head _)), _, _, _, pt_self _ _, rfl⟩) rfl rfl ?_; intro a hf
  refine ef_call hf rfl (wanted_none _ _ rfl) rfl rfl (by kernel_rfl) (Spec.frame (L2 := []) (Backward_spec vo hT)) rfl (l' := [(9, _), (8, _), (7, _), (6, _), (2, _), (1, _), (0, _)]) rfl ?_; rintro a w v L ⟨L1, ⟨bb, rfl, rfl⟩, rfl⟩ hf hT
  refine plan_nil ?_
  replace hf := hf.sel [10, 2, 1] (l' := [(10, _), (2, _), (1, _)]) rfl
  refine wpIn_block ?_
  refine wp_range (L := [_, _, _, _, _]) (R := [_, _] ++ rs) hf ((hT.brings [2, 1, 2, 6, 6, 6, 6])) rfl (by kernel_rfl) (Backward_iter bb vo (ids s.L) (RowIn.of_block (.head _) (pt_self _ _) (fun j hj => by simp at hj; obtain rfl : j = 0 := (by omega); rw [hE.cells1]; rfl)) hE.app) (fun u hu => bvals_len u hu) rfl
    (fun i L' => L' = [pt b (.cells (bufCells s vo br bs bt).toArray 106), xr, xs, xt, pt b2 (.cells #[.bool false] 4)] ∧ ∀ x ∈ s.L.reverse.take i, x.sq = false)
    (fun c L' => c = .ret ∧ ∃ h Lb', squeeze s.L = some h ∧ BufM b { s with used := s.used - (h.r.size - h.r.packed), L := mark s.L h.r.id } vo Lb' ∧ L' = Lb' ++ [pt b2 (.cells #[.bool true] 4)])
    (fun i => [(4, .int .i64 ((ids s.L).getD ((ids s.L).length - 1 - i) 0)), (1, .pointer (some ⟨b1, 0, none⟩)), (2, .pointer (some ⟨b2, 0, none⟩))]) ⟨rfl, by simp⟩ ?_ ?_ ?_ ?_
  · intro lo i u hu w a L R hf hT
    obtain ⟨hi, rfl⟩ := bvals_inv hu
    replace hf : Fr _ [(12, _), (11, _), (10, _), (1, _), (2, _)] _ _ := hf.sel [12, 11, 10, 1, 2] rfl
    -- region 2 (buffer.go:93)
    refine wp_reg (L) ([] ++ _) [(0, true)] mixed (by kernel_rfl) (hT) ?_; intro w hT
    refine rd hf rfl (yl_assign rfl) rfl rfl ?_; intro a hf
    refine plan_nil ?_
    replace hf := hf.sel [4, 1, 2] (l' := [(4, _), (1, _), (2, _)]) rfl
    exact ⟨(hf.sel [4, 1, 2] (by simp only [sel, lk, Nat.beq, cond]; rw [List.getD_eq_getElem?_getD, List.getElem?_eq_getElem (by omega)]; rfl)), hT⟩
  · intro lo i u hu Rx w a L hJ hf hT
    obtain ⟨rfl, hb⟩ := hJ
    obtain ⟨hi, -⟩ := bvals_inv hu
    have hln : (ids s.L).length = s.L.length := by simp [ids]
    have hi' : s.L.length - 1 - i < s.L.length := by omega
    have hid : (ids s.L).getD ((ids s.L).length - 1 - i) 0 = s.L[s.L.length - 1 - i].r.id := by rw [List.getD_eq_getElem?_getD, hln]; simp [ids, hi']
    rw [hid] at hf
    have hh : fnd s.L s.L[s.L.length - 1 - i].r.id = some s.L[s.L.length - 1 - i] := fnd_of_mem hnd (List.getElem_mem hi')
    have hokh := hok _ (List.getElem_mem hi')
    have hst := squeeze_step (i := i) (by omega) hb
    have hat := squeeze_at (i := i) (by omega) hb
    generalize s.L[s.L.length - 1 - i] = h at hf hh hokh hst hat
    obtain ⟨ok1, ok2, ok3, ok4, ok5, ok6, ok7, ok8, ok9, ok10⟩ := id hokh
    replace hf : Fr _ [(4, _), (1, _), (2, _)] _ _ := hf
    have hbox : RowIn (Rx ++ ([pt bb (.cells vo.cells 37), pt b1 (.cells #[.pointer (some ⟨b, 0, none⟩)] 25)] ++ rs)) b1 0 [.pointer (some ⟨b, 0, none⟩)] := rowIn_app (RowIn.of_block (.tail _ (.head _)) (pt_self _ _) (fun j hj => by simp at hj; obtain rfl : j = 0 := (by omega); rfl))
    refine wpIn_block ?_
    refine wpIn_seq ?_
    -- region 3 (buffer.go:94)
    refine wp_reg ([]) ([_, _, _, _, _] ++ (Rx ++ ([_, _] ++ rs))) [(0, true), (1, true), (2, true), (3, true), (4, true), (5, true), (6, false), (7, false)] mixed (by kernel_rfl) (hT) ?_; intro w hT
    refine rd hf rfl (yl_load Try.underlying25 rfl rfl (hbox 0 _ rfl).app) rfl rfl ?_; intro a hf
    refine rd hf rfl (yl_nil rfl) rfl rfl ?_; intro a hf
    refine rd hf rfl (yl_faddr Try.underlying106 rfl rfl sz_29 (k := 4) rfl) rfl rfl ?_; intro a hf
    refine rd hf rfl (yl_load Try.underlying29 rfl rfl ⟨_, .head _, _, _, _, pt_self _ _, rfl⟩) rfl rfl ?_; intro a hf
    refine rd hf rfl (yl_move rfl) rfl rfl ?_; intro a hf
    refine rd hf rfl (yl_lookupE kI Try.underlying29 zr_31 rfl rfl ⟨_, .tail _ (.head _), hMr⟩ (show _ = encR h.r from by rw [hM.r, hh]; rfl)) rfl rfl ?_; intro a hf
    refine ef hf hT rfl rfl (ef_alloc zr_31) rfl (l' := [(18, _), (17, _), (16, _), (15, _), (14, _), (13, _), (4, _), (1, _), (2, _)]) rfl ?_; rintro a w v L ⟨b3, rfl, rfl⟩ hf hT
    refine efS hf hT rfl rfl (ef_storeW rfl rfl sz_31 rfl rfl rfl) ?_; rintro w L rfl hT
    refine plan_nil ?_
    replace hf := hf.sel [5, 4, 1, 2] (l' := [(5, _), (4, _), (1, _), (2, _)]) rfl
    refine wpIn_seq ?_
    -- region 4 (buffer.go:95)
    refine wp_reg ([]) ([_, _, _, _, _, _] ++ (Rx ++ ([_, _] ++ rs))) [(0, true), (1, true), (2, true), (3, true), (4, true), (5, true), (6, true), (7, true), (8, true), (9, true), (10, true), (11, true), (12, true), (13, true)] mixed (by kernel_rfl) (hT) ?_; intro w hT
    refine rd hf rfl (yl_load Try.underlying25 rfl rfl (hbox 0 _ rfl).app) rfl rfl ?_; intro a hf
    refine rd hf rfl (yl_nil rfl) rfl rfl ?_; intro a hf
    refine rd hf rfl (yl_faddr Try.underlying106 rfl rfl sz_103 (k := 5) rfl) rfl rfl ?_; intro a hf
    refine rd hf rfl (yl_load Try.underlying103 rfl rfl ⟨_, .tail _ (.head _), _, _, _, pt_self _ _, rfl⟩) rfl rfl ?_; intro a hf
    refine rd hf rfl (yl_move rfl) rfl rfl ?_; intro a hf
    refine rd hf rfl (yl_lookupE kI Try.underlying103 zr_3 rfl rfl ⟨_, .tail _ (.tail _ (.tail _ (.head _))), hMs⟩ (show _ = ik (if h.small then 1 else 0) from by rw [hM.s, hh]; simp only [Option.bind_some, Hld.sm]; cases h.small <;> rfl)) rfl rfl ?_; intro a hf
    refine rd hf rfl (yl_cmp rfl rfl rfl) rfl rfl ?_; intro a hf
    refine rd hf rfl (yl_move rfl) rfl rfl ?_; intro a hf
    by_cases hg7 : (if h.small = true then (1 : Int) else 0) = 0
    · have hgT1 : decide ((if h.small = true then (1 : Int) else 0) = 0) = true := by simpa using hg7
      refine rdT hf rfl rfl rfl rfl (by first | exact hgT1 | simp [hgT1]) (yl_faddr Try.underlying31 rfl rfl sz_2 (k := 4) rfl) rfl (l' := [(27, _), (26, _), (25, _), (24, _), (23, _), (22, _), (21, _), (20, _), (19, _), (5, _), (4, _), (1, _), (2, _)]) rfl ?_; intro a hf
      refine rdT hf rfl rfl rfl rfl (by first | exact hgT1 | simp [hgT1]) (yl_load Try.underlying2 rfl rfl ⟨_, .head _, _, _, _, pt_self _ _, rfl⟩) rfl (l' := [(28, _), (27, _), (26, _), (25, _), (24, _), (23, _), (22, _), (21, _), (20, _), (19, _), (5, _), (4, _), (1, _), (2, _)]) rfl ?_; intro a hf
      refine rdT hf rfl rfl rfl rfl (by first | exact hgT1 | simp [hgT1]) (yl_faddr Try.underlying31 rfl rfl sz_2 (k := 3) rfl) rfl (l' := [(29, _), (28, _), (27, _), (26, _), (25, _), (24, _), (23, _), (22, _), (21, _), (20, _), (19, _), (5, _), (4, _), (1, _), (2, _)]) rfl ?_; intro a hf
      refine rdT hf rfl rfl rfl rfl (by first | exact hgT1 | simp [hgT1]) (yl_load Try.underlying2 rfl rfl ⟨_, .head _, _, _, _, pt_self _ _, rfl⟩) rfl (l' := [(30, _), (29, _), (28, _), (27, _), (26, _), (25, _), (24, _), (23, _), (22, _), (21, _), (20, _), (19, _), (5, _), (4, _), (1, _), (2, _)]) rfl ?_; intro a hf
      refine rdT hf rfl rfl rfl rfl (by first | exact hgT1 | simp [hgT1]) (yl_cmp rfl rfl rfl) rfl (l' := [(31, _), (30, _), (29, _), (28, _), (27, _), (26, _), (25, _), (24, _), (23, _), (22, _), (21, _), (20, _), (19, _), (5, _), (4, _), (1, _), (2, _)]) rfl ?_; intro a hf
      refine rd hf rfl (yl_pickTT rfl hgT1 rfl) rfl rfl ?_; intro a hf
      refine plan_nil ?_
      replace hf := hf.sel [32, 5, 4, 1, 2] (l' := [(32, _), (5, _), (4, _), (1, _), (2, _)]) rfl
      refine wp_ifd hf rfl (fun hpk => ?_) (fun hpk => ?_)
      · -- then
        have hsq : h.sq = true := by cases hq : h.small <;> simp_all [Hld.sq]
        refine wpIn_seq ?_
        -- region 5 (buffer.go:96)
        refine wp_reg ([]) ([_, _, _, _, _, _] ++ (Rx ++ ([_, _] ++ rs))) [(0, true), (1, true), (2, true), (3, true), (4, true), (5, false)] mixed (by kernel_rfl) (hT) ?_; intro w hT
        refine rd hf rfl (yl_load Try.underlying25 rfl rfl (hbox 0 _ rfl).app) rfl rfl ?_; intro a hf
        refine rd hf rfl (yl_nil rfl) rfl rfl ?_; intro a hf
        refine rd hf rfl (yl_faddr Try.underlying106 rfl rfl sz_103 (k := 5) rfl) rfl rfl ?_; intro a hf
        refine rd hf rfl (yl_load Try.underlying103 rfl rfl ⟨_, .tail _ (.head _), _, _, _, pt_self _ _, rfl⟩) rfl rfl ?_; intro a hf
        refine rd hf rfl (yl_move rfl) rfl rfl ?_; intro a hf
        replace hT : Tot _ _ ([_] ++ ([_, _, _, _, _] ++ (Rx ++ ([_, _] ++ rs)))) := hT.bring 3
        refine efS_last hf hT rfl rfl (by kernel_rfl) (ef_mapUpdate kI Try.underlying103 rfl rfl rfl hMs) ?_; rintro w L ⟨M1, hM1, rfl⟩ hT
        replace hf := hf.sel [5, 1, 2] (l' := [(5, _), (1, _), (2, _)]) rfl
        refine wpIn_seq ?_
        -- region 6 (buffer.go:97)
        refine wp_reg ([]) ([_, _, _, _, _, _] ++ (Rx ++ ([_, _] ++ rs))) [(0, true), (1, true), (2, true), (3, true), (4, true), (5, true), (6, true), (7, true), (8, true), (9, true), (10, true), (11, true), (12, false)] mixed (by kernel_rfl) (hT) ?_; intro w hT
        refine rd hf rfl (yl_load Try.underlying25 rfl rfl (hbox 0 _ rfl).app) rfl rfl ?_; intro a hf
        refine rd hf rfl (yl_nil rfl) rfl rfl ?_; intro a hf
        refine rd hf rfl (yl_faddr Try.underlying106 rfl rfl sz_2 (k := 1) rfl) rfl rfl ?_; intro a hf
        refine rd hf rfl (yl_load Try.underlying2 rfl rfl ⟨_, .tail _ (.tail _ (.head _)), _, _, _, pt_self _ _, rfl⟩) rfl rfl ?_; intro a hf
        refine rd hf rfl (yl_faddr Try.underlying31 rfl rfl sz_2 (k := 3) rfl) rfl rfl ?_; intro a hf
        refine rd hf rfl (yl_load Try.underlying2 rfl rfl ⟨_, .tail _ (.head _), _, _, _, pt_self _ _, rfl⟩) rfl rfl ?_; intro a hf
        refine rd hf rfl (yl_faddr Try.underlying31 rfl rfl sz_2 (k := 4) rfl) rfl rfl ?_; intro a hf
        refine rd hf rfl (yl_load Try.underlying2 rfl rfl ⟨_, .tail _ (.head _), _, _, _, pt_self _ _, rfl⟩) rfl rfl ?_; intro a hf
        refine rd hf rfl (yl_sub rfl rfl (by unfold inI64; omega)) rfl rfl ?_; intro a hf
        refine rd hf rfl (yl_sub rfl rfl (by unfold inI64; omega)) rfl rfl ?_; intro a hf
        refine rd hf rfl (yl_nil rfl) rfl rfl ?_; intro a hf
        refine rd hf rfl (yl_faddr Try.underlying106 rfl rfl sz_2 (k := 1) rfl) rfl rfl ?_; intro a hf
        replace hT : Tot _ _ ([_] ++ ([_, _, _, _, _] ++ (Rx ++ ([_, _] ++ rs)))) := hT.bring 2
        refine efS_last hf hT rfl rfl (by kernel_rfl) (ef_store rfl rfl sz_2 rfl rfl) ?_; rintro w L rfl hT
        replace hf := hf.sel [2] (l' := [(2, _)]) rfl
        refine wpIn_seq ?_
        -- region 7 (buffer.go:98)
        refine wp_reg ([]) ([_, _, _, _, _, _] ++ (Rx ++ ([_, _] ++ rs))) [(0, false)] mixed (by kernel_rfl) (hT) ?_; intro w hT
        replace hT : Tot _ _ ([_] ++ ([_, _, _, _, _] ++ (Rx ++ ([_, _] ++ rs)))) := hT.bring 5
        refine efS_last hf hT rfl rfl (by kernel_rfl) (ef_store rfl rfl sz_4 rfl rfl) ?_; rintro w L rfl hT
        refine wpIn_ret ?_
        refine inBlock_ret ?_
        refine rq_ret (L := [_, _, _, _, _]) ?_ (((hT.brings [3]).tail.brings [0, 4, 3, 4, 4]))
        exact ⟨rfl, h, [_, _, _, _], hat hsq, ⟨br, _, bs, _, bt, _, _, _, _, rfl, hMr, hM1, hMt, hM.mark hh⟩, rfl⟩
      · -- else
        have hsq : h.sq = false := by cases hq : h.small <;> simp_all [Hld.sq]
        refine wpIn_skip ?_
        refine inBlock_norm ?_
        refine rq_normal (L := [_, _, _, _, _]) ?_ ((hT.brings [0]).tail)
        exact ⟨rfl, hst (by cases hq : h.small <;> simp_all [Hld.sq])⟩
    · have hgT1 : decide ((if h.small = true then (1 : Int) else 0) = 0) = false := by simpa using hg7
      refine rdF hf rfl rfl rfl rfl (by first | exact hgT1 | simp [hgT1]) rfl (l' := [(27, _), (26, _), (25, _), (24, _), (23, _), (22, _), (21, _), (20, _), (19, _), (5, _), (4, _), (1, _), (2, _)]) rfl ?_; intro a hf
      refine rdF hf rfl rfl rfl rfl (by first | exact hgT1 | simp [hgT1]) rfl (l' := [(28, _), (27, _), (26, _), (25, _), (24, _), (23, _), (22, _), (21, _), (20, _), (19, _), (5, _), (4, _), (1, _), (2, _)]) rfl ?_; intro a hf
      refine rdF hf rfl rfl rfl rfl (by first | exact hgT1 | simp [hgT1]) rfl (l' := [(29, _), (28, _), (27, _), (26, _), (25, _), (24, _), (23, _), (22, _), (21, _), (20, _), (19, _), (5, _), (4, _), (1, _), (2, _)]) rfl ?_; intro a hf
      refine rdF hf rfl rfl rfl rfl (by first | exact hgT1 | simp [hgT1]) rfl (l' := [(30, _), (29, _), (28, _), (27, _), (26, _), (25, _), (24, _), (23, _), (22, _), (21, _), (20, _), (19, _), (5, _), (4, _), (1, _), (2, _)]) rfl ?_; intro a hf
      refine rdF hf rfl rfl rfl rfl (by first | exact hgT1 | simp [hgT1]) rfl (l' := [(31, _), (30, _), (29, _), (28, _), (27, _), (26, _), (25, _), (24, _), (23, _), (22, _), (21, _), (20, _), (19, _), (5, _), (4, _), (1, _), (2, _)]) rfl ?_; intro a hf
      refine rd hf rfl (yl_pickFF rfl hgT1 rfl) rfl rfl ?_; intro a hf
      refine plan_nil ?_
      replace hf := hf.sel [32, 5, 4, 1, 2] (l' := [(32, _), (5, _), (4, _), (1, _), (2, _)]) rfl
      refine wp_ifFF hf rfl (rfl) ?_
      refine wpIn_skip ?_
      refine inBlock_norm ?_
      refine rq_normal (L := [_, _, _, _, _]) ?_ ((hT.brings [0]).tail)
      exact ⟨rfl, hst (by cases hq : h.small <;> simp_all [Hld.sq])⟩
  · intro dD w a L hJ hf hT
    obtain ⟨rfl, hb⟩ := hJ
    rw [show (bvals (ids s.L)).length = s.L.length by simp [bvals, ids]] at hb
    replace hf := hf.sel [1, 2] (l' := [(1, _), (2, _)]) rfl
    refine wpIn_seq ?_
    -- region 8 (buffer.go:101)
    refine wp_reg ([]) ([_, _, _, _, _, _, _, _] ++ rs) [(0, false)] mixed (by kernel_rfl) (hT) ?_; intro w hT
    replace hT : Tot _ _ ([_] ++ ([_, _, _, _, _, _, _] ++ rs)) := hT.bring 5
    refine efS_last hf hT rfl rfl (by kernel_rfl) (ef_store rfl rfl sz_4 rfl rfl) ?_; rintro w L rfl hT
    refine wpIn_ret ?_
    replace hT := (hT.brings [5, 5, 5, 5, 7, 7, 6, 7])
    refine body_retG (L := [_, _, _, _]) [_, _, _] [dD] hf hT rfl (vs := [.bool false]) ⟨⟨_, _, rfl, fun w hw => ?_⟩, trivial⟩ ?_
    · exact run_load1 Try.underlying4 rfl (CellIn.at_ ⟨_, .head _, _, _, _, pt_self _ _, rfl⟩ hw)
    · rw [squeeze_none hb]; exact ⟨rfl, br, _, bs, _, bt, _, _, _, _, rfl, hMr, hMs, hMt, hM⟩
  · rintro dD c w a L ⟨rfl, h, Lb', hsq, hBM, rfl⟩ hf hT
    refine wpIn_ret ?_
    replace hT : Tot _ _ ([_] ++ ((Lb' ++ [_]) ++ ([_, _] ++ rs))) := hT
    replace hT : Tot _ _ (markParts [dD] ++ ([_, _, _] ++ (Lb' ++ rs))) := hT.perm (by simp only [markParts, List.cons_append, List.nil_append, List.append_assoc]; exact .cons _ (List.perm_append_comm_assoc Lb' [_, _, _] rs))
    refine body_retG (L := Lb') [_, _, _] [dD] hf hT rfl (vs := [.bool true]) ⟨⟨_, _, rfl, fun w hw => ?_⟩, trivial⟩ ?_
    · exact run_load1 Try.underlying4 rfl (CellIn.at_ ⟨_, .head _, _, _, _, pt_self _ _, rfl⟩ hw)
    · rw [hsq]; exact ⟨rfl, hBM⟩
end Go.Proofs.Ytjhbgciocffihaa
