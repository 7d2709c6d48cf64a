-- written by gen.py out of walks texts of my own
import Derived.Test.YtjhbgciocffihaaB2
set_option linter.unusedVariables false
set_option linter.unusedSimpArgs false
set_option maxHeartbeats 4000000
namespace Go.Proofs.Ytjhbgciocffihaa
theorem Backward_spec {e : Env} {w : World} {rs : List Part} (vo : Value) (hT : Tot e w rs) : Spec Try.prog 91 #[vo] e w rs (fun v L => ∃ bb, v = .func (.func 111) #[] #[.pointer (some ⟨bb, 0, none⟩)] ∧ L = [pt bb (.cells vo.cells 37)]) := by
  refine spec_body Try.func91 rfl Try.ntmps91 rfl rfl ?_
  intro a hf
  refine wpIn_seq ?_
  -- region 0 (iter.go:26)
  refine wp_reg ([]) ([] ++ rs) [(0, false), (1, true)] mixed (by kernel_rfl) (hT) ?_; intro w hT
  refine ef hf hT rfl rfl (ef_box rfl) rfl (l' := [(0, _)]) rfl ?_; rintro a w v L ⟨b1, rfl, rfl⟩ hf hT
  refine rd hf rfl (yl_assign rfl) rfl rfl ?_; intro a hf
  refine plan_nil ?_
  refine wpIn_seq ?_
  -- region 1 (iter.go:27)
  refine wp_reg ([]) ([_] ++ rs) [(0, true), (1, true)] mixed (by kernel_rfl) (hT) ?_; intro w hT
  refine rd hf rfl (yl_func rfl) rfl rfl ?_; intro a hf
  refine rw_ hf rfl (yl_assign rfl) rfl (l' := [(2, _), (3, _), (1, _), (0, _)]) rfl ?_; intro a hf
  refine plan_nil ?_
  replace hf := hf.sel [2] (l' := [(2, _)]) rfl
  refine wpIn_ret ?_
  exact body_ret hf (L := [_]) (hT) rfl rfl ⟨b1, rfl, rfl⟩
def bvals (xs : List Int) : List (List Value) := (List.range xs.length).map fun k => [.int .i64 ((xs.length - 1 - k : Nat) : Int), .int .i64 (xs.getD (xs.length - 1 - k) 0)]
theorem bvals_get {xs : List Int} {k : Nat} (h : k < xs.length) {y : Int} (hy : xs[xs.length - 1 - k]? = some y) : (bvals xs)[k]? = some [.int .i64 ((xs.length - 1 - k : Nat) : Int), .int .i64 y] := by
  simp [bvals, List.getElem?_range h, List.getD, hy]
theorem Backward_iter {e : Env} {rs : List Part} (bb : Nat) (vo : Value) (xs : List Int) (hrow : RowIn rs bb 0 [vo]) (hE : Els encI rs vo xs) : Iter Try.prog 111 #[.pointer (some ⟨bb, 0, none⟩)] e rs (bvals xs) := by
  intro lo w J X L0 hJ0 hT hround
  refine spec_body (vs := [.func (.yield lo) #[] #[], .pointer (some ⟨bb, 0, none⟩)]) Try.func111 rfl Try.ntmps111 rfl rfl ?_
  intro a hf
  have hlen := hE.len_le
  refine wpIn_seq ?_
  -- region 0 (iter.go:28)
  refine wp_reg (L0) ([] ++ rs) [(0, true), (1, true), (2, true), (3, true)] mixed (by kernel_rfl) (hT) ?_; intro w hT
  refine rd hf rfl (yl_load Try.underlying37 rfl rfl (hrow 0 _ rfl).app) rfl rfl ?_; intro a hf
  refine rd hf rfl (yl_lenE rfl Try.underlying37 hE.app) rfl rfl ?_; intro a hf
  refine rd hf rfl (yl_sub rfl rfl (by have := hE.len_le; unfold inI64; omega)) rfl rfl ?_; intro a hf
  refine rd hf rfl (yl_assign rfl) rfl rfl ?_; intro a hf
  refine plan_nil ?_
  replace hf := hf.sel [3, 0, 1] (l' := [(3, _), (0, _), (1, _)]) rfl
  refine wpIn_block ?_
  refine wp_loopS (σ := Nat) (fun j => [(3, .int .i64 ((j : Nat) - 1))]) [(0, _), (1, _)] (fun j L => j ≤ xs.length ∧ J (xs.length - j) L) (fun j => j) xs.length (L := L0) (R := [] ++ rs) (hf.sel [3, 0, 1] rfl) (⟨Nat.le_refl _, by rw [Nat.sub_self]; exact hJ0⟩) hT ?_
  clear hf hT; rintro j a w L hf ⟨hk, hJ⟩ hT
  replace hf : Fr _ [(3, .int .i64 ((j : Nat) - 1)), (0, _), (1, _)] _ _ := hf
  refine wpIn_seq ?_
  refine wpIn_seq ?_
  -- region 1 (iter.go:28)
  refine wp_reg (L) ([] ++ rs) [(0, true), (1, true)] mixed (by kernel_rfl) (hT) ?_; intro w hT
  refine rd hf rfl (yl_move rfl) rfl rfl ?_; intro a hf
  refine rd hf rfl (yl_cmp rfl rfl rfl) rfl rfl ?_; intro a hf
  refine plan_nil ?_
  refine wp_ifd hf rfl (fun hge => ?_) (fun hge => ?_)
  · -- then
    obtain ⟨m, rfl⟩ : ∃ m, j = m + 1 := ⟨j - 1, by omega⟩
    have hix : (((m + 1 : Nat) : Int) - 1).toNat = m := by omega
    have hj : xs[(((m + 1 : Nat) : Int) - 1).toNat]? = some (xs[m]'(by omega)) := by rw [hix]; exact List.getElem?_eq_getElem _
    have e1 : xs.length - 1 - (xs.length - (m + 1)) = m := by omega
    have hu := bvals_get (xs := xs) (k := xs.length - (m + 1)) (by omega) (y := xs[m]'(by omega)) (by rw [e1]; exact List.getElem?_eq_getElem _)
    rw [e1, show ((m : Nat) : Int) = ((m + 1 : Nat) : Int) - 1 by omega] at hu
    refine wpIn_skip ?_
    refine wpIn_seq ?_
    refine wpIn_block ?_
    refine wpIn_seq ?_
    -- region 3 (iter.go:29)
    refine wp_reg (L) ([] ++ rs) [(0, true), (1, true), (2, true), (3, true), (4, true), (5, true), (6, false), (7, true)] mixed (by kernel_rfl) (hT) ?_; intro w hT
    refine rd hf rfl (yl_move rfl) rfl rfl ?_; intro a hf
    refine rd hf rfl (yl_move rfl) rfl rfl ?_; intro a hf
    refine rd hf rfl (yl_load Try.underlying37 rfl rfl (hrow 0 _ rfl).app) rfl rfl ?_; intro a hf
    refine rd hf rfl (yl_move rfl) rfl rfl ?_; intro a hf
    refine rd hf rfl (yl_indexE rfl rfl Try.underlying37 sz_2 hE.app (by omega) (by omega)) rfl rfl ?_; intro a hf
    refine rd hf rfl (yl_load Try.underlying2 rfl rfl (hE.app.cell hj (f := 0) rfl)) rfl rfl ?_; intro a hf
    refine ef_yield hf rfl rfl rfl (hround (xs.length - (m + 1)) _ hu [] w L hJ hT) rfl (l' := [(16, _), (15, _), (14, _), (13, _), (12, _), (11, _), (8, _), (7, _), (3, _), (0, _), (1, _)]) rfl ?_; rintro a w b L ⟨hb1, hb2⟩ hf hT
    refine rd hf rfl (yl_not rfl) rfl rfl ?_; intro a hf
    refine plan_nil ?_
    replace hf := hf.sel [18, 3, 0, 1] (l' := [(18, _), (3, _), (0, _), (1, _)]) rfl
    refine wp_if hf rfl (fun hbb => ?_) (fun hbb => ?_)
    · -- then
      obtain rfl : b = false := by simpa using hbb
      refine wpIn_ret ?_
      exact body_ret hf (L := L) hT rfl rfl (.inr (hb2 rfl))
    · -- else
      obtain rfl : b = true := by simpa using hbb
      refine wpIn_skip ?_
      -- region 2 (iter.go:28)
      refine wp_reg (L) ([] ++ rs) [(0, true), (1, true), (2, true)] mixed (by kernel_rfl) (hT) ?_; intro w hT
      refine rd hf rfl (yl_move rfl) rfl rfl ?_; intro a hf
      refine rd hf rfl (yl_sub rfl rfl (by have := hE.len_le; unfold inI64; omega)) rfl rfl ?_; intro a hf
      refine rw_ hf rfl (yl_assign rfl) rfl (l' := [(3, _), (10, _), (9, _), (18, _), (0, _), (1, _)]) rfl ?_; intro a hf
      refine plan_nil ?_
      replace hf := hf.sel [3, 0, 1] (l' := [(3, _), (0, _), (1, _)]) rfl
      exact ⟨m, L, (hf.sel [3, 0, 1] (by simp only [sel, lk, Nat.beq, cond]; rw [show ((m + 1 : Nat) : Int) - 1 - 1 = (m : Int) - 1 by omega]; rfl)), ⟨by omega, by rw [show xs.length - m = xs.length - (m + 1) + 1 by omega]; exact hb1 rfl⟩, hT, by omega⟩
  · -- else
    obtain rfl : j = 0 := by omega
    refine wpIn_exit ?_
    refine then_exit ?_
    refine then_exit ?_
    refine inBlock_hit ?_
    exact body_end hf (L := L) hT rfl rfl (.inl (by rw [show (bvals xs).length = xs.length - 0 by simp [bvals]]; exact hJ))
end Go.Proofs.Ytjhbgciocffihaa
