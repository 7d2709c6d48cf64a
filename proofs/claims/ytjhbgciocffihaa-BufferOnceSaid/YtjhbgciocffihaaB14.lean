-- written by gen.py out of walks texts of my own
import Derived.Test.YtjhbgciocffihaaB12
set_option linter.unusedVariables false
set_option linter.unusedSimpArgs false
set_option maxHeartbeats 4000000
namespace Go.Proofs.Ytjhbgciocffihaa
/-- P8.9: it may be sent at t. -/
def due (t wt : Int) (h : Hld) : Bool := decide (h.sent = -1 ∨ h.sent ≤ t - wt)
def dvals (t wt : Int) (L : List Hld) : List (List Value) := (L.filter (due t wt)).map fun h => [.int .i64 h.r.id]
theorem filter_take_get {α : Type} {p : α → Bool} {L : List α} {k : Nat} (hk : k < L.length) (hp : p L[k] = true) : (L.filter p)[((L.take k).filter p).length]? = some L[k] := by
  have e : L = L.take k ++ L[k] :: L.drop (k + 1) := by rw [← List.drop_eq_getElem_cons hk, List.take_append_drop]
  conv => lhs; rw [e]
  rw [show ((L.take k ++ L[k] :: L.drop (k + 1)).take k) = L.take k by rw [← e]]
  rw [List.filter_append, List.getElem?_append_right (Nat.le_refl _), Nat.sub_self, List.filter_cons_of_pos hp]
  rfl
theorem filter_take_succ {α : Type} {p : α → Bool} {L : List α} {k : Nat} (hk : k < L.length) : (L.take (k + 1)).filter p = (L.take k).filter p ++ if p L[k] = true then [L[k]] else [] := by
  rw [List.take_succ_eq_append_getElem hk, List.filter_append]
  by_cases h : p L[k] = true
  · rw [if_pos h, List.filter_cons_of_pos h]; rfl
  · rw [if_neg h, List.filter_cons_of_neg h]; rfl
theorem dvals_get {t wt : Int} {L : List Hld} {k : Nat} (hk : k < L.length) (hp : due t wt L[k] = true) : (dvals t wt L)[((L.take k).filter (due t wt)).length]? = some [.int .i64 L[k].r.id] := by
  unfold dvals; rw [List.getElem?_map, filter_take_get hk hp]; rfl
theorem due_spec {e : Env} {w : World} {rs : List Part} (vb : Value) (t wt : Int) (hT : Tot e w rs) : Spec Try.prog 55 #[vb, .int .i64 t, .int .i64 wt] e w rs (fun v L => ∃ c1 c2 c3, v = .func (.func 93) #[] #[.pointer (some ⟨c1, 0, none⟩), .pointer (some ⟨c2, 0, none⟩), .pointer (some ⟨c3, 0, none⟩)] ∧ L = [pt c1 (.cells vb.cells 25), pt c2 (.cells #[.int .i64 t] 2), pt c3 (.cells #[.int .i64 wt] 2)]) := by
  refine spec_body Try.func55 rfl Try.ntmps55 rfl rfl ?_
  intro a hf
  refine wpIn_seq ?_
  -- region 0 (buffer.go:137)
  refine wp_reg ([]) ([] ++ rs) [(0, false), (1, false), (2, false), (3, true)] mixed (by kernel_rfl) (hT) ?_; intro w hT
  refine ef hf hT rfl rfl (ef_box rfl) rfl (l' := [(0, _), (1, _), (2, _)]) rfl ?_; rintro a w v L ⟨b1, rfl, rfl⟩ hf hT
  refine ef hf hT rfl rfl (ef_box rfl) rfl (l' := [(3, _), (0, _), (1, _), (2, _)]) rfl ?_; rintro a w v L ⟨b2, rfl, rfl⟩ hf hT
  refine ef hf hT rfl rfl (ef_box rfl) rfl (l' := [(4, _), (3, _), (0, _), (1, _), (2, _)]) rfl ?_; rintro a w v L ⟨b3, rfl, rfl⟩ hf hT
  refine rd hf rfl (yl_assign rfl) rfl rfl ?_; intro a hf
  refine plan_nil ?_
  replace hf := hf.sel [5, 4, 3] (l' := [(5, _), (4, _), (3, _)]) rfl
  refine wpIn_seq ?_
  -- region 1 (buffer.go:138)
  refine wp_reg ([]) ([_, _, _] ++ rs) [(0, true), (1, true)] mixed (by kernel_rfl) (hT) ?_; intro w hT
  refine rd hf rfl (yl_func rfl) rfl rfl ?_; intro a hf
  refine rd hf rfl (yl_assign rfl) rfl rfl ?_; intro a hf
  refine plan_nil ?_
  replace hf := hf.sel [6] (l' := [(6, _)]) rfl
  refine wpIn_ret ?_
  exact body_ret hf (L := [_, _, _]) ((hT.brings [0, 1, 2])) rfl rfl ⟨b1, b2, b3, rfl, rfl⟩
theorem due_iter {e : Env} {rs : List Part} (c1 c2 c3 b : Nat) (s : BS) (vo : Value) (t wt : Int) (ht : 0 ≤ t ∧ t ≤ 1073741824) (hw : 0 ≤ wt ∧ wt ≤ 1073741824) (hr1 : RowIn rs c1 0 [.pointer (some ⟨b, 0, none⟩)]) (hr2 : RowIn rs c2 0 [.int .i64 t]) (hr3 : RowIn rs c3 0 [.int .i64 wt])
    (hB : BufMIn rs b s vo) (hE : Els encI rs vo (ids s.L)) (hnd : (ids s.L).Nodup) : Iter Try.prog 93 #[.pointer (some ⟨c1, 0, none⟩), .pointer (some ⟨c2, 0, none⟩), .pointer (some ⟨c3, 0, none⟩)] e rs (dvals t wt s.L) := by
  intro lo w J X L0 hJ0 hT hround
  refine spec_body (vs := [.func (.yield lo) #[] #[], .pointer (some ⟨c1, 0, none⟩), .pointer (some ⟨c2, 0, none⟩), .pointer (some ⟨c3, 0, none⟩)]) Try.func93 rfl Try.ntmps93 rfl rfl ?_
  intro a hf
  have hlen := hE.len_le
  obtain ⟨br, bs, bt, mr, ms, mt, hrow, hMr, hMs, hMt, hM⟩ := hB
  refine wpIn_seq ?_
  -- region 0 (buffer.go:139)
  refine wp_reg (L0) ([] ++ rs) [(0, true), (1, true), (2, true), (3, true), (4, true), (5, true)] mixed (by kernel_rfl) (hT) ?_; intro w hT
  refine rd hf rfl (yl_load Try.underlying25 rfl rfl (hr1 0 _ rfl).app) rfl rfl ?_; intro a hf
  refine rd hf rfl (yl_nil rfl) rfl rfl ?_; intro a hf
  refine rd hf rfl (yl_faddr Try.underlying106 rfl rfl sz_37 (k := 3) rfl) rfl rfl ?_; intro a hf
  refine rd hf rfl (yl_load Try.underlying37 rfl rfl (hrow 3 _ rfl).app) rfl rfl ?_; intro a hf
  refine rd hf rfl (yl_lenE rfl Try.underlying37 hE.app) rfl rfl ?_; intro a hf
  refine rd hf rfl (yl_move rfl) rfl rfl ?_; intro a hf
  refine plan_nil ?_
  replace hf := hf.sel [14, 13, 12, 0, 1, 2, 3] (l' := [(14, _), (13, _), (12, _), (0, _), (1, _), (2, _), (3, _)]) rfl
  refine wpIn_block ?_
  have hln : (ids s.L).length = s.L.length := by simp [ids]
  refine wp_loopS (σ := Nat) (fun k => [(14, .int .i64 (k : Nat))]) [(13, _), (12, _), (0, _), (1, _), (2, _), (3, _)] (fun k L => k ≤ s.L.length ∧ J ((s.L.take k).filter (due t wt)).length L) (fun k => s.L.length - k) 0 (L := L0) (R := [] ++ rs) (hf.sel [14, 13, 12, 0, 1, 2, 3] rfl) (⟨Nat.zero_le _, hJ0⟩) hT ?_
  clear hf hT; rintro k a w L hf ⟨hk, hJ⟩ hT
  replace hf : Fr _ [(14, .int .i64 (k : Nat)), (13, _), (12, _), (0, _), (1, _), (2, _), (3, _)] _ _ := hf
  refine wpIn_seq ?_
  -- region 1 (buffer.go:139)
  refine wp_reg (L) ([] ++ rs) [(0, true)] mixed (by kernel_rfl) (hT) ?_; intro w hT
  refine rd hf rfl (yl_cmp rfl rfl rfl) rfl rfl ?_; intro a hf
  refine plan_nil ?_
  refine wpIn_seq ?_
  refine wp_ifd hf rfl (fun hlt => ?_) (fun hlt => ?_)
  · -- then
    have hltk : k < s.L.length := by omega
    have hj : (ids s.L)[k]? = some s.L[k].r.id := by simp [ids, hltk]
    have hh : fnd s.L s.L[k].r.id = some s.L[k] := fnd_of_mem hnd (List.getElem_mem hltk)
    have hu := dvals_get (t := t) (wt := wt) hltk
    have hst : s.L[k].st = if s.L[k].sent = -1 then none else some s.L[k].sent := rfl
    refine wpIn_skip ?_
    refine wpIn_seq ?_
    refine wpIn_block ?_
    refine wpIn_seq ?_
    -- region 2 (buffer.go:139)
    refine wp_reg (L) ([] ++ rs) [(0, true), (1, true), (2, true)] mixed (by kernel_rfl) (hT) ?_; intro w hT
    refine rd hf rfl (yl_indexE rfl rfl Try.underlying37 sz_2 hE.app (by omega) (by omega)) rfl rfl ?_; intro a hf
    refine rd hf rfl (yl_load Try.underlying2 rfl rfl (hE.app.cell hj (f := 0) rfl)) rfl rfl ?_; intro a hf
    refine rd hf rfl (yl_assign rfl) rfl rfl ?_; intro a hf
    refine plan_nil ?_
    replace hf := hf.sel [6, 14, 13, 12, 0, 1, 2, 3] (l' := [(6, _), (14, _), (13, _), (12, _), (0, _), (1, _), (2, _), (3, _)]) rfl
    refine wpIn_seq ?_
    refine wpIn_seq ?_
    -- region 3 (buffer.go:140)
    refine wp_reg (L) ([] ++ rs) [(0, true), (1, true), (2, true), (3, true), (4, true), (5, true), (6, true), (7, true), (8, true), (9, true), (10, true)] mixed (by kernel_rfl) (hT) ?_; intro w hT
    refine rd hf rfl (yl_load Try.underlying25 rfl rfl (hr1 0 _ rfl).app) rfl rfl ?_; intro a hf
    refine rd hf rfl (yl_nil rfl) rfl rfl ?_; intro a hf
    refine rd hf rfl (yl_faddr Try.underlying106 rfl rfl sz_104 (k := 6) rfl) rfl rfl ?_; intro a hf
    refine rd hf rfl (yl_load Try.underlying104 rfl rfl (hrow 6 _ rfl).app) rfl rfl ?_; intro a hf
    refine rd hf rfl (yl_move rfl) rfl rfl ?_; intro a hf
    refine rd hf rfl (yl_lookupOkE kI Try.underlying104 zr_2 rfl rfl hMt.app (show _ = ik (s.L[k].st.getD 0) from by rw [hM.t, hh]; simp only [Option.bind_some]; cases s.L[k].st <;> rfl) (show _ = s.L[k].st.isSome from by rw [hM.t, hh]; rfl)) rfl rfl ?_; intro a hf
    refine rd hf rfl (yl_move rfl) rfl rfl ?_; intro a hf
    refine rd hf rfl (yl_extract rfl rfl) rfl rfl ?_; intro a hf
    refine rd hf rfl (yl_extract rfl rfl) rfl rfl ?_; intro a hf
    refine rd hf rfl (yl_assign rfl) rfl rfl ?_; intro a hf
    refine rd hf rfl (yl_assign rfl) rfl rfl ?_; intro a hf
    refine plan_nil ?_
    replace hf := hf.sel [8, 7, 6, 14, 13, 12, 0, 1, 2, 3] (l' := [(8, _), (7, _), (6, _), (14, _), (13, _), (12, _), (0, _), (1, _), (2, _), (3, _)]) rfl
    refine wpIn_seq ?_
    -- region 4 (buffer.go:140)
    refine wp_reg (L) ([] ++ rs) [(0, true), (1, true), (2, true), (3, true), (4, true), (5, true), (6, true), (7, true)] mixed (by kernel_rfl) (hT) ?_; intro w hT
    refine rd hf rfl (yl_move rfl) rfl rfl ?_; intro a hf
    refine rd hf rfl (yl_move rfl) rfl rfl ?_; intro a hf
    by_cases hg1 : s.L[k].st.isSome = true
    · have hgT1 : s.L[k].st.isSome = true := by simpa using hg1
      have hs1 : s.L[k].sent ≠ -1 := by intro h; rw [hst, if_pos h] at hg1; cases hg1
      have hs2 : s.L[k].st.getD 0 = s.L[k].sent := by rw [hst, if_neg hs1]; rfl
      refine rdT hf rfl rfl rfl rfl (by first | exact hgT1 | simp [hgT1]) (yl_move rfl) rfl (l' := [(29, _), (28, _), (27, _), (8, _), (7, _), (6, _), (14, _), (13, _), (12, _), (0, _), (1, _), (2, _), (3, _)]) rfl ?_; intro a hf
      refine rdT hf rfl rfl rfl rfl (by first | exact hgT1 | simp [hgT1]) (yl_load Try.underlying2 rfl rfl (hr2 0 _ rfl).app) rfl (l' := [(30, _), (29, _), (28, _), (27, _), (8, _), (7, _), (6, _), (14, _), (13, _), (12, _), (0, _), (1, _), (2, _), (3, _)]) rfl ?_; intro a hf
      refine rdT hf rfl rfl rfl rfl (by first | exact hgT1 | simp [hgT1]) (yl_load Try.underlying2 rfl rfl (hr3 0 _ rfl).app) rfl (l' := [(31, _), (30, _), (29, _), (28, _), (27, _), (8, _), (7, _), (6, _), (14, _), (13, _), (12, _), (0, _), (1, _), (2, _), (3, _)]) rfl ?_; intro a hf
      refine rdT hf rfl rfl rfl rfl (by first | exact hgT1 | simp [hgT1]) (yl_sub rfl rfl (by unfold inI64; omega)) rfl (l' := [(32, _), (31, _), (30, _), (29, _), (28, _), (27, _), (8, _), (7, _), (6, _), (14, _), (13, _), (12, _), (0, _), (1, _), (2, _), (3, _)]) rfl ?_; intro a hf
      refine rdT hf rfl rfl rfl rfl (by first | exact hgT1 | simp [hgT1]) (yl_cmp rfl rfl rfl) rfl (l' := [(33, _), (32, _), (31, _), (30, _), (29, _), (28, _), (27, _), (8, _), (7, _), (6, _), (14, _), (13, _), (12, _), (0, _), (1, _), (2, _), (3, _)]) rfl ?_; intro a hf
      refine rd hf rfl (yl_pickTT rfl hgT1 rfl) rfl rfl ?_; intro a hf
      refine plan_nil ?_
      replace hf := hf.sel [34, 6, 14, 13, 12, 0, 1, 2, 3] (l' := [(34, _), (6, _), (14, _), (13, _), (12, _), (0, _), (1, _), (2, _), (3, _)]) rfl
      refine wp_ifd hf rfl (fun hd => ?_) (fun hd => ?_)
      · -- then
        rw [hs2] at hd
        have hdue : due t wt s.L[k] = false := by simp [due, hs1]; omega
        refine wpIn_exit ?_
        refine then_exit ?_
        refine inBlock_hit ?_
        -- region 6 (buffer.go:139)
        refine wp_reg (L) ([] ++ rs) [(0, true), (1, true)] mixed (by kernel_rfl) (hT) ?_; intro w hT
        refine rd hf rfl (yl_add rfl rfl (by unfold inI64; omega)) rfl rfl ?_; intro a hf
        refine rw_ hf rfl (yl_move rfl) rfl (l' := [(14, _), (39, _), (34, _), (6, _), (13, _), (12, _), (0, _), (1, _), (2, _), (3, _)]) rfl ?_; intro a hf
        refine plan_nil ?_
        replace hf := hf.sel [14, 13, 12, 0, 1, 2, 3] (l' := [(14, _), (13, _), (12, _), (0, _), (1, _), (2, _), (3, _)]) rfl
        exact ⟨k + 1, L, hf.sel [14, 13, 12, 0, 1, 2, 3] rfl, ⟨by omega, by rw [filter_take_succ hltk, if_neg (by rw [hdue]; decide), List.append_nil]; exact hJ⟩, hT, by omega⟩
      · -- else
        rw [hs2] at hd
        have hdue : due t wt s.L[k] = true := by simp [due, hs1]; omega
        refine wpIn_skip ?_
        refine wpIn_seq ?_
        -- region 5 (buffer.go:143)
        refine wp_reg (L) ([] ++ rs) [(0, true), (1, true), (2, false), (3, true)] mixed (by kernel_rfl) (hT) ?_; intro w hT
        refine rd hf rfl (yl_move rfl) rfl rfl ?_; intro a hf
        refine rd hf rfl (yl_move rfl) rfl rfl ?_; intro a hf
        refine ef_yield hf rfl rfl rfl (hround ((s.L.take k).filter (due t wt)).length _ (hu hdue) [] w L hJ hT) rfl (l' := [(36, _), (35, _), (34, _), (6, _), (14, _), (13, _), (12, _), (0, _), (1, _), (2, _), (3, _)]) rfl ?_; rintro a w bb L ⟨hb1, hb2⟩ hf hT
        refine rd hf rfl (yl_not rfl) rfl rfl ?_; intro a hf
        refine plan_nil ?_
        replace hf := hf.sel [38, 14, 13, 12, 0, 1, 2, 3] (l' := [(38, _), (14, _), (13, _), (12, _), (0, _), (1, _), (2, _), (3, _)]) rfl
        refine wp_if hf rfl (fun hbb => ?_) (fun hbb => ?_)
        · -- then
          obtain rfl : bb = false := by simpa using hbb
          refine wpIn_ret ?_
          exact body_ret hf (L := L) hT rfl rfl (.inr (hb2 rfl))
        · -- else
          obtain rfl : bb = true := by simpa using hbb
          refine wpIn_skip ?_
          -- region 6 (buffer.go:139)
          refine wp_reg (L) ([] ++ rs) [(0, true), (1, true)] mixed (by kernel_rfl) (hT) ?_; intro w hT
          refine rd hf rfl (yl_add rfl rfl (by unfold inI64; omega)) rfl rfl ?_; intro a hf
          refine rw_ hf rfl (yl_move rfl) rfl (l' := [(14, _), (39, _), (38, _), (13, _), (12, _), (0, _), (1, _), (2, _), (3, _)]) rfl ?_; intro a hf
          refine plan_nil ?_
          exact ⟨k + 1, L, hf.sel [14, 13, 12, 0, 1, 2, 3] rfl, ⟨by omega, by rw [filter_take_succ hltk, if_pos hdue, List.length_append]; exact hb1 rfl⟩, hT, by omega⟩
    · have hgT1 : s.L[k].st.isSome = false := by simpa using hg1
      have hs1 : s.L[k].sent = -1 := by rw [hst] at hg1; by_cases h : s.L[k].sent = -1; exact h; rw [if_neg h] at hg1; exact absurd rfl hg1
      have hdue : due t wt s.L[k] = true := by simp [due, hs1]
      refine rdF hf rfl rfl rfl rfl (by first | exact hgT1 | simp [hgT1]) rfl (l' := [(29, _), (28, _), (27, _), (8, _), (7, _), (6, _), (14, _), (13, _), (12, _), (0, _), (1, _), (2, _), (3, _)]) rfl ?_; intro a hf
      refine rdF hf rfl rfl rfl rfl (by first | exact hgT1 | simp [hgT1]) rfl (l' := [(30, _), (29, _), (28, _), (27, _), (8, _), (7, _), (6, _), (14, _), (13, _), (12, _), (0, _), (1, _), (2, _), (3, _)]) rfl ?_; intro a hf
      refine rdF hf rfl rfl rfl rfl (by first | exact hgT1 | simp [hgT1]) rfl (l' := [(31, _), (30, _), (29, _), (28, _), (27, _), (8, _), (7, _), (6, _), (14, _), (13, _), (12, _), (0, _), (1, _), (2, _), (3, _)]) rfl ?_; intro a hf
      refine rdF hf rfl rfl rfl rfl (by first | exact hgT1 | simp [hgT1]) rfl (l' := [(32, _), (31, _), (30, _), (29, _), (28, _), (27, _), (8, _), (7, _), (6, _), (14, _), (13, _), (12, _), (0, _), (1, _), (2, _), (3, _)]) rfl ?_; intro a hf
      refine rdF hf rfl rfl rfl rfl (by first | exact hgT1 | simp [hgT1]) rfl (l' := [(33, _), (32, _), (31, _), (30, _), (29, _), (28, _), (27, _), (8, _), (7, _), (6, _), (14, _), (13, _), (12, _), (0, _), (1, _), (2, _), (3, _)]) rfl ?_; intro a hf
      refine rd hf rfl (yl_pickFF rfl hgT1 rfl) rfl rfl ?_; intro a hf
      refine plan_nil ?_
      replace hf := hf.sel [34, 6, 14, 13, 12, 0, 1, 2, 3] (l' := [(34, _), (6, _), (14, _), (13, _), (12, _), (0, _), (1, _), (2, _), (3, _)]) rfl
      refine wp_ifFF hf rfl (rfl) ?_
      refine wpIn_skip ?_
      refine wpIn_seq ?_
      -- region 5 (buffer.go:143)
      refine wp_reg (L) ([] ++ rs) [(0, true), (1, true), (2, false), (3, true)] mixed (by kernel_rfl) (hT) ?_; intro w hT
      refine rd hf rfl (yl_move rfl) rfl rfl ?_; intro a hf
      refine rd hf rfl (yl_move rfl) rfl rfl ?_; intro a hf
      refine ef_yield hf rfl rfl rfl (hround ((s.L.take k).filter (due t wt)).length _ (hu hdue) [] w L hJ hT) rfl (l' := [(36, _), (35, _), (34, _), (6, _), (14, _), (13, _), (12, _), (0, _), (1, _), (2, _), (3, _)]) rfl ?_; rintro a w bb L ⟨hb1, hb2⟩ hf hT
      refine rd hf rfl (yl_not rfl) rfl rfl ?_; intro a hf
      refine plan_nil ?_
      replace hf := hf.sel [38, 14, 13, 12, 0, 1, 2, 3] (l' := [(38, _), (14, _), (13, _), (12, _), (0, _), (1, _), (2, _), (3, _)]) rfl
      refine wp_if hf rfl (fun hbb => ?_) (fun hbb => ?_)
      · -- then
        obtain rfl : bb = false := by simpa using hbb
        refine wpIn_ret ?_
        exact body_ret hf (L := L) hT rfl rfl (.inr (hb2 rfl))
      · -- else
        obtain rfl : bb = true := by simpa using hbb
        refine wpIn_skip ?_
        -- region 6 (buffer.go:139)
        refine wp_reg (L) ([] ++ rs) [(0, true), (1, true)] mixed (by kernel_rfl) (hT) ?_; intro w hT
        refine rd hf rfl (yl_add rfl rfl (by unfold inI64; omega)) rfl rfl ?_; intro a hf
        refine rw_ hf rfl (yl_move rfl) rfl (l' := [(14, _), (39, _), (38, _), (13, _), (12, _), (0, _), (1, _), (2, _), (3, _)]) rfl ?_; intro a hf
        refine plan_nil ?_
        exact ⟨k + 1, L, hf.sel [14, 13, 12, 0, 1, 2, 3] rfl, ⟨by omega, by rw [filter_take_succ hltk, if_pos hdue, List.length_append]; exact hb1 rfl⟩, hT, by omega⟩
  · -- else
    obtain rfl : k = s.L.length := by omega
    refine wpIn_exit ?_
    refine then_exit ?_
    refine then_exit ?_
    refine inBlock_hit ?_
    exact body_end hf (L := L) hT rfl rfl (.inl (by rw [show (dvals t wt s.L).length = ((s.L.take s.L.length).filter (due t wt)).length by simp [dvals]]; exact hJ))
end Go.Proofs.Ytjhbgciocffihaa
