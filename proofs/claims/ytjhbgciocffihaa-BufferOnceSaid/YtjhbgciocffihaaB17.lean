/- The plain law of BufferBursts; an element of an array behind a pointer. -/
import Derived.Test.YtjhbgciocffihaaB16
set_option linter.unusedVariables false
set_option linter.unusedSimpArgs false
namespace Go.Proofs.Ytjhbgciocffihaa
theorem setSent_sum (L : List Hld) (ks : List Int) (t : Int) : sumB (setSent L ks t) = sumB L := by
  unfold sumB setSent; rw [List.map_map]; congr 1; apply List.map_congr_left; intro x _; simp only [Function.comp]; split <;> rfl
theorem setSent_rec (L : List Hld) (ks : List Int) (t : Int) : (setSent L ks t).map (·.r) = L.map (·.r) := by
  unfold setSent; rw [List.map_map]; apply List.map_congr_left; intro x _; simp only [Function.comp]; split <;> rfl
theorem Inv.bst {s : BS} (h : Inv s) (n t wt : Int) : Inv (Ytjhbgciocffihaa.bst s n t wt) := by
  refine ⟨?_, ?_, ?_, h.cp, h.srt.map (setSent_rec _ _ _)⟩
  · show (ids (setSent _ _ _)).Nodup; rw [ids_setSent]; exact h.nd
  · intro y hy
    obtain ⟨z, hz, rfl⟩ := List.mem_map.1 hy
    have := h.ok z hz
    split <;> exact this
  · show s.used = sumB (setSent _ _ _); rw [setSent_sum]; exact h.us
/-- x[i] of an array behind a pointer. -/
theorem yl_indexArr {P : Program} {R : List Part} {l : List (Nat × Value)} {ty : TypeId} {t : TypeId} {x y : Operand} {b off n : Nat} {j : Int} {e : TypeId} {k sz : Nat} (hx : ev l x = some (.pointer (some ⟨b, off, none⟩))) (hy : ev l y = some (.int .i64 j)) (hu : P.underlying t = some (.array n e)) (hs : (P.info? e).map (·.size) = some sz)
    (h0 : 0 ≤ j) (h1 : j < n) (hk : off + j.toNat * sz = k) : Yl P R l (.indexAddr t x y) ty (.pointer (some ⟨b, k, none⟩)) := by
  intro a w ha hw dst pos after guard
  obtain ⟨i, hi, hn⟩ := Option.map_eq_some_iff.1 hs
  have hz : (sizeOf e).run P w = .ok sz w := by simp [sizeOf, typeInfo, program, Sem.run_bind, Sem.run, Result.andThen, hi, hn, pure, Sem.pure]
  simp only [execOp, ha.ev hx, ha.ev hy, Instr.indexAt]
  simp [Sem.run_bind, Sem.run_pure, Result.andThen, run_underlying' hu, asIntOf, Instr.sureAddr, h0, h1, hz, add_at, hk]
/-- one step of a burst over all records -/
def bf (n t wt : Int) (L : List Hld) : Int × List Int := bfold n (L.filter (due t wt))
theorem bf_succ {n t wt : Int} {L : List Hld} {k : Nat} (hk : k < L.length) : bf n t wt (L.take (k + 1)) = if due t wt L[k] = true ∧ L[k].bytes ≤ (bf n t wt (L.take k)).1 then ((bf n t wt (L.take k)).1 - L[k].bytes, (bf n t wt (L.take k)).2 ++ [L[k].r.id]) else bf n t wt (L.take k) := by
  unfold bf
  rw [filter_take_succ hk]
  by_cases hd : due t wt L[k] = true
  · rw [if_pos hd]
    unfold bfold
    rw [List.foldl_append]
    simp only [List.foldl_cons, List.foldl_nil, bstep, hd, true_and]
  · rw [if_neg hd, List.append_nil, if_neg (fun h => hd h.1)]
theorem bf_split {n t wt : Int} {L : List Hld} (k : Nat) : ∃ rest, (bf n t wt L).2 = (bf n t wt (L.take k)).2 ++ rest ∧ ∀ x ∈ rest, x ∈ ids (L.drop k) := by
  have key : ∀ (D : List Hld) (x : Int × List Int), ∃ rest, (D.foldl bstep x).2 = x.2 ++ rest ∧ ∀ y ∈ rest, y ∈ ids D := by
    intro D
    induction D with
    | nil => intro x; exact ⟨[], by simp, by simp⟩
    | cons h D ih =>
      intro x
      obtain ⟨rest, h1, h2⟩ := ih (bstep x h)
      by_cases hb : h.bytes ≤ x.1
      · refine ⟨h.r.id :: rest, ?_, ?_⟩
        · rw [List.foldl_cons, h1]; simp [bstep, hb]
        · intro y hy
          rcases List.mem_cons.1 hy with rfl | hy
          · simp [ids]
          · have := h2 y hy; simp only [ids, List.map_cons, List.mem_cons] at this ⊢; exact .inr this
      · refine ⟨rest, ?_, ?_⟩
        · rw [List.foldl_cons, h1]; simp [bstep, hb]
        · intro y hy; have := h2 y hy; simp only [ids, List.map_cons, List.mem_cons] at this ⊢; exact .inr this
  obtain ⟨rest, h1, h2⟩ := key ((L.drop k).filter (due t wt)) (bf n t wt (L.take k))
  refine ⟨rest, ?_, fun x hx => ?_⟩
  · rw [← h1]
    unfold bf bfold
    rw [← List.foldl_append, ← List.filter_append, List.take_append_drop]
  · obtain ⟨h, hh, he⟩ := List.mem_map.1 (h2 x hx)
    exact List.mem_map.2 ⟨h, (List.mem_filter.1 hh).1, he⟩
theorem bf_is {n t wt : Int} {L : List Hld} (hn : (ids L).Nodup) {k : Nat} (hk : k < L.length) : (bf n t wt L).2[(bf n t wt (L.take k)).2.length]? = some L[k].r.id ↔ (due t wt L[k] = true ∧ L[k].bytes ≤ (bf n t wt (L.take k)).1) := by
  constructor
  · intro h
    apply Classical.byContradiction
    intro hc
    have hs := bf_succ (n := n) (t := t) (wt := wt) hk
    rw [if_neg hc] at hs
    obtain ⟨rest, h1, h2⟩ := bf_split (n := n) (t := t) (wt := wt) (L := L) (k + 1)
    rw [hs] at h1
    rw [h1, List.getElem?_append_right (Nat.le_refl _), Nat.sub_self] at h
    have hm := h2 _ (List.mem_of_getElem? h)
    have e : ids L = ids (L.take k) ++ L[k].r.id :: ids (L.drop (k + 1)) := by
      have e0 : L = L.take k ++ L[k] :: L.drop (k + 1) := by rw [← List.drop_eq_getElem_cons hk, List.take_append_drop]
      exact (congrArg ids e0).trans (by simp only [ids, List.map_append, List.map_cons])
    rw [e, List.nodup_append] at hn
    exact (List.nodup_cons.1 hn.2.1).1 hm
  · intro h
    have hs := bf_succ (n := n) (t := t) (wt := wt) hk
    rw [if_pos h] at hs
    obtain ⟨rest, h1, h2⟩ := bf_split (n := n) (t := t) (wt := wt) (L := L) (k + 1)
    rw [hs] at h1
    rw [h1, List.append_assoc, List.getElem?_append_right (Nat.le_refl _), Nat.sub_self]
    rfl
theorem bf_mem {n t wt : Int} {L : List Hld} (hn : (ids L).Nodup) {k : Nat} (hk : k < L.length) : L[k].r.id ∈ (bf n t wt L).2 ↔ (due t wt L[k] = true ∧ L[k].bytes ≤ (bf n t wt (L.take k)).1) := by
  have e0 : L = L.take k ++ L[k] :: L.drop (k + 1) := by rw [← List.drop_eq_getElem_cons hk, List.take_append_drop]
  have e : ids L = ids (L.take k) ++ L[k].r.id :: ids (L.drop (k + 1)) := by
    exact (congrArg ids e0).trans (by simp only [ids, List.map_append, List.map_cons])
  have hn' := hn
  rw [e, List.nodup_append] at hn'
  constructor
  · intro h
    apply Classical.byContradiction
    intro hc
    have hs := bf_succ (n := n) (t := t) (wt := wt) hk
    rw [if_neg hc] at hs
    obtain ⟨rest, h1, h2⟩ := bf_split (n := n) (t := t) (wt := wt) (L := L) (k + 1)
    rw [hs] at h1
    rw [h1] at h
    rcases List.mem_append.1 h with h | h
    · have := bfold_mem _ _ _ h
      obtain ⟨y, hy, he⟩ := List.mem_map.1 this
      exact hn'.2.2 _ (List.mem_map.2 ⟨y, (List.mem_filter.1 hy).1, he⟩) _ (List.mem_cons_self ..) rfl
    · exact (List.nodup_cons.1 hn'.2.1).1 (h2 _ h)
  · intro h
    exact List.mem_of_getElem? ((bf_is hn hk).2 h)
end Go.Proofs.Ytjhbgciocffihaa
