/- Plain words on bursts. -/
import Derived.Test.YtjhbgciocffihaaB14
set_option linter.unusedVariables false
set_option linter.unusedSimpArgs false
namespace Go.Proofs.Ytjhbgciocffihaa
def bstep (x : Int × List Int) (h : Hld) : Int × List Int := if h.bytes ≤ x.1 then (x.1 - h.bytes, x.2 ++ [h.r.id]) else x
def bfold (n : Int) (D : List Hld) : Int × List Int := D.foldl bstep (n, [])
theorem bfold_succ {n : Int} {D : List Hld} {i : Nat} (hi : i < D.length) : bfold n (D.take (i + 1)) = bstep (bfold n (D.take i)) D[i] := by
  unfold bfold; rw [List.take_succ_eq_append_getElem hi, List.foldl_append]; rfl
theorem bfold_len (n : Int) (D : List Hld) : (bfold n D).2.length ≤ D.length := by
  have : ∀ (D : List Hld) (x : Int × List Int), (D.foldl bstep x).2.length ≤ x.2.length + D.length := by
    intro D
    induction D with
    | nil => intro x; simp
    | cons h D ih =>
      intro x
      have := ih (bstep x h)
      simp only [List.foldl_cons, List.length_cons]
      have h2 : (bstep x h).2.length ≤ x.2.length + 1 := by unfold bstep; split <;> simp
      omega
  have := this D (n, [])
  unfold bfold; simpa using this
theorem bfold_mem (n : Int) (D : List Hld) : ∀ k ∈ (bfold n D).2, k ∈ ids D := by
  have : ∀ (D : List Hld) (x : Int × List Int), ∀ k ∈ (D.foldl bstep x).2, k ∈ x.2 ∨ k ∈ ids D := by
    intro D
    induction D with
    | nil => intro x k hk; exact .inl hk
    | cons h D ih =>
      intro x k hk
      rcases ih (bstep x h) k hk with h1 | h1
      · unfold bstep at h1
        split at h1
        · rcases List.mem_append.1 h1 with h1 | h1
          · exact .inl h1
          · rw [List.mem_singleton.1 h1]; exact .inr (by simp [ids])
        · exact .inl h1
      · exact .inr (by simp only [ids, List.map_cons, List.mem_cons] at h1 ⊢; exact .inr h1)
  intro k hk
  rcases this D (n, []) k hk with h | h
  · cases h
  · exact h
theorem bfold_rng (n : Int) (hn : 0 ≤ n) (D : List Hld) (hk : ∀ h ∈ D, h.r.Ok) : 0 ≤ (bfold n D).1 ∧ (bfold n D).1 ≤ n := by
  have : ∀ (D : List Hld) (x : Int × List Int), (∀ h ∈ D, h.r.Ok) → 0 ≤ x.1 ∧ x.1 ≤ n → 0 ≤ (D.foldl bstep x).1 ∧ (D.foldl bstep x).1 ≤ n := by
    intro D
    induction D with
    | nil => intro x _ h; exact h
    | cons h D ih =>
      intro x hk hx
      refine ih _ (fun y hy => hk y (List.mem_cons_of_mem _ hy)) ?_
      have hb := bytes_rng (hk h (List.mem_cons_self ..))
      unfold bstep
      split
      · simp only; omega
      · exact hx
  exact this D (n, []) hk ⟨hn, Int.le_refl _⟩
theorem dvals_inv {t wt : Int} {L : List Hld} {i : Nat} {u : List Value} (h : (dvals t wt L)[i]? = some u) : ∃ hi : i < (L.filter (due t wt)).length, u = [.int .i64 (L.filter (due t wt))[i].r.id] := by
  unfold dvals at h
  rw [List.getElem?_map] at h
  cases hq : (L.filter (due t wt))[i]? with
  | none => rw [hq] at h; cases h
  | some x =>
    rw [hq] at h
    obtain ⟨hi, he⟩ := List.getElem?_eq_some_iff.1 hq
    exact ⟨hi, by rw [he]; exact (Option.some.inj h).symm⟩
theorem dvals_len {t wt : Int} {L : List Hld} : ∀ u ∈ dvals t wt L, u.length = 1 := by
  intro u hu
  obtain ⟨h, _, rfl⟩ := List.mem_map.1 hu
  rfl
def setSent (L : List Hld) (ks : List Int) (t : Int) : List Hld := L.map fun h => if h.r.id ∈ ks then { h with sent := t } else h
theorem setSent_nil (L : List Hld) (t : Int) : setSent L [] t = L := by simp [setSent]
theorem setSent_snoc (L : List Hld) (ks : List Int) (k t : Int) : setSent (setSent L ks t) [k] t = setSent L (ks ++ [k]) t := by
  unfold setSent
  rw [List.map_map]
  refine List.map_congr_left fun h _ => ?_
  simp only [Function.comp, List.mem_append, List.mem_singleton]
  by_cases h1 : h.r.id ∈ ks
  · simp only [h1, if_true, true_or]; by_cases h2 : h.r.id = k <;> simp [h2]
  · simp only [h1, if_false, false_or]
theorem ids_setSent (L : List Hld) (ks : List Int) (t : Int) : ids (setSent L ks t) = ids L := by
  simp only [ids, setSent, List.map_map]; apply List.map_congr_left; intro x hx; simp only [Function.comp]; split <;> rfl
theorem fnd_setSent (L : List Hld) (k t j : Int) : fnd (setSent L [k] t) j = (fnd L j).map fun h => if h.r.id = k then { h with sent := t } else h := by
  induction L with
  | nil => rfl
  | cons x L ih =>
    have e0 : (if x.r.id = k then { x with sent := t } else x).r.id = x.r.id := by split <;> rfl
    have e9 : setSent (x :: L) [k] t = (if x.r.id = k then { x with sent := t } else x) :: setSent L [k] t := by simp [setSent]
    by_cases hx : x.r.id = j
    · have e1 : fnd (x :: L) j = some x := by simp [fnd, hx]
      have e2 : fnd (setSent (x :: L) [k] t) j = some (if x.r.id = k then { x with sent := t } else x) := by
        rw [e9]; unfold fnd
        rw [List.find?_cons_of_pos (by show decide ((if _ then _ else _ : Hld).r.id = j) = true; rw [e0]; simp [hx])]
      rw [e1, e2]; rfl
    · have e1 : fnd (x :: L) j = fnd L j := by simp [fnd, hx]
      have e2 : fnd (setSent (x :: L) [k] t) j = fnd (setSent L [k] t) j := by
        rw [e9]; unfold fnd
        rw [List.find?_cons_of_neg (by show ¬ decide ((if _ then _ else _ : Hld).r.id = j) = true; rw [e0]; simp [hx])]
      rw [e1, e2, ih]
theorem Maps.sent {L : List Hld} {mr : List (Int × Rec)} {ms mt : List (Int × Int)} (h : Maps L mr ms mt) {k t : Int} (hk : k ∈ ids L) (ht : t ≠ -1) : Maps (setSent L [k] t) mr ms (upd mt k t) := by
  refine ⟨fun j => ?_, fun j => ?_, fun j => ?_⟩
  · rw [fnd_setSent, h.r]; cases fnd L j <;> simp; split <;> rfl
  · rw [fnd_setSent, h.s]; cases fnd L j <;> simp; split <;> rfl
  · rw [fnd_setSent, assoc_upd]
    by_cases hj : j = k
    · subst hj
      rw [if_pos rfl]
      cases hq : fnd L j with
      | none => exact absurd hk (fnd_none.1 hq)
      | some y => have := (fnd_mem hq).2; simp [this, Hld.st, ht]
    · rw [if_neg hj, h.t]
      cases hq : fnd L j with
      | none => rfl
      | some y => have := (fnd_mem hq).2; simp [show ¬ y.r.id = k from fun e => hj (this.symm.trans e)]
/-- What Burst leaves. -/
def bst (s : BS) (n t wt : Int) : BS := { s with time := t, L := setSent s.L (bfold n (s.L.filter (due t wt))).2 t }
end Go.Proofs.Ytjhbgciocffihaa
