/- From the row to the walk: a slice of pieces that is an argument; a run that leaves the old heap as it was. -/
import Derived.Test.YtjhbgciocffihaaB9
import Derived.Test.YtjhbgciocffihaaRows
import Derived.ProofKit
import Derived.Deep.Slices
import Derived.Deep.Fields
import Derived.OpenShut
set_option linter.unusedVariables false
set_option linter.unusedSimpArgs false
namespace Go.Proofs.Ytjhbgciocffihaa
open Go.ChangeShapes Go.WideShapes Go.ChangeAt Go.RowKit Go.Deep
theorem Try.own : ownKnob Try.prog.godebug = none := by kernel_rfl
theorem Try.laidOut : laidOutB Try.prog = true := by kernel_rfl
/-- All that lies in W. -/
def heapOf (W : World) : Part := fun k => W.heap[k]?
def envOf (W : World) : Env := ⟨W.os, W.tape, W.output, W.drawn⟩
theorem tot_heapOf (W : World) : Tot (envOf W) W [heapOf W] := ⟨rfl, rfl, rfl, Nat.le_refl _, fun x hx k o hk => by rw [List.mem_singleton.1 hx] at hk; exact hk, List.pairwise_singleton _ _⟩
theorem below_of_tot {W W' : World} {L : List Part} (h : Tot (envOf W) W' (L ++ [heapOf W])) : Below W.heap.size W W' := by
  have hall : ∀ k o, W.heap[k]? = some o → W'.heap[k]? = some o := fun k o hk => h.has (heapOf W) (by simp) k o hk
  refine ⟨h.os, h.tape, h.output, ?_, fun k hk => ?_⟩
  · rcases Nat.eq_zero_or_pos W.heap.size with h0 | h0
    · omega
    · have := hall (W.heap.size - 1) _ (Array.getElem?_eq_getElem (by omega))
      have := (Array.getElem?_eq_some_iff.1 this).1
      omega
  · rw [Array.getElem?_eq_getElem hk]
    exact hall k _ (Array.getElem?_eq_getElem hk)
theorem cellIn_heapOf {W : World} {b o : Nat} {v : Value} (h : W.cell? ⟨b, o, none⟩ = some v) : CellIn [heapOf W] b o v := by
  unfold World.cell? at h
  split at h
  · rename_i c T fz hb
    simp at h
    exact ⟨heapOf W, .head _, c, T, fz, hb, by rw [nth_eq, Array.getElem?_toList]; exact h⟩
  · cases h
theorem cell_spot {W : World} {a : Addr} {v : Value} (h : W.cell? a = some v) : a.spot = none := by
  unfold World.cell? at h
  split at h
  · split at h
    · cases h
    · rename_i hs; simpa using hs
  · cases h
theorem list_choose {α : Type} {P : Nat → α → Prop} : ∀ (n : Nat), (∀ i, i < n → ∃ x, P i x) → ∃ l : List α, l.length = n ∧ ∀ i x, l[i]? = some x → P i x
  | 0, _ => ⟨[], rfl, fun i x h => by simp at h⟩
  | n + 1, h => by
    obtain ⟨l, hl, hp⟩ := list_choose n fun i hi => h i (by omega)
    obtain ⟨x, hx⟩ := h n (by omega)
    refine ⟨l ++ [x], by simp [hl], fun i y hy => ?_⟩
    by_cases hi : i < n
    · rw [List.getElem?_append_left (by omega)] at hy; exact hp i y hy
    · rw [List.getElem?_append_right (by omega)] at hy
      have hi2 : i < n + 1 := by
        have := (List.getElem?_eq_some_iff.1 hy).1
        simp at this; omega
      obtain rfl : i = n := by omega
      rw [hl, Nat.sub_self] at hy
      simp at hy; subst hy; exact hx
section
variable {H : Type} {enc : TypeId × Value → H} {W : World}
/-- A slice of elements that lie cell by cell: what of each element is known. -/
theorem els_of_slice {α : Type} {E : Enc α} {P : Program} {t e : TypeId} {Q : α → Prop} {A : Option Addr} {len cap : Nat} {d : DataW H} {p : List MemPlace} (ht : P.underlying t = some (.slice e)) (hC : P.cellsOf e = E.sz)
    (hel : ∀ n cs x, DataW.trod enc P W 0 (fun _ => true) true n e cs = some x → ∃ a, Q a ∧ cs = E.cells a)
    (h : DataW.Trod enc P W 0 (fun _ => true) true t (.slice A len cap) d p) : ∃ xs : List α, (∀ a ∈ xs, Q a) ∧ Els E [heapOf W] (.slice A len cap) xs := by
  obtain ⟨fuel, hf⟩ := h
  have hc0 : (Value.slice A len cap).cells.toList = [.slice A len cap] := by simp [Value.cells]
  rw [hc0] at hf
  rcases open_slice ht hf with ⟨hcs, _⟩ | ⟨a, len', cap', m, n, D, Pl, hcs, hb, hl, hm, hmm, hx, hi⟩
  · simp at hcs
    obtain ⟨rfl, rfl, rfl⟩ := hcs
    exact ⟨[], by simp, ⟨none, 0, rfl, by simp, by simp⟩, by simp⟩
  · simp at hcs
    obtain ⟨rfl, rfl, rfl⟩ := hcs
    simp only [if_true] at hmm
    subst hmm
    have hone : ∀ i, i < len → ∃ x : α, Q x ∧ ∀ j u, (E.cells x)[j]? = some u → W.cell? (a.add (i * E.sz + j)) = some u := by
      intro i hil
      obtain ⟨cs', hcs', htr⟩ := hi i (by omega)
      obtain ⟨_, hlen, hat⟩ := World.cells?_some hcs'
      obtain ⟨x, hq, rfl⟩ := hel _ _ _ htr
      refine ⟨x, hq, fun j u hj => ?_⟩
      have hjl := (List.getElem?_eq_some_iff.1 hj).1
      rw [E.len, ← hC] at hjl
      rw [← hj, ← hat j hjl, ← Go.Deep.add_add, hC]
    obtain ⟨xs, hxl, hxs⟩ := list_choose len hone
    have hspot : 0 < len → a.spot = none := by
      intro h0
      have hx0 : xs[0]? = some (xs[0]'(by omega)) := List.getElem?_eq_getElem _
      have h1 := (hxs 0 _ hx0).2 0 ((E.cells (xs[0]'(by omega)))[0]'(by rw [E.len]; exact E.pos)) (List.getElem?_eq_getElem _)
      have := cell_spot h1
      simpa [Addr.add] using this
    have haddr : 0 < len → a = ⟨a.block, a.off, none⟩ := fun h0 => by obtain ⟨b, o, s⟩ := a; have := hspot h0; simp at this; rw [this]
    refine ⟨xs, fun x hx => ?_, ⟨some a, _, by rw [hxl], fun h0 => ⟨a.block, a.off, by rw [← haddr (by omega)]⟩, by omega⟩, fun j x hj k u hk => ?_⟩
    · obtain ⟨j, hj, rfl⟩ := List.getElem_of_mem hx
      exact (hxs j _ (List.getElem?_eq_getElem hj)).1
    · have hlt : 0 < len := by have := (List.getElem?_eq_some_iff.1 hj).1; omega
      have h1 := (hxs j x hj).2 k u hk
      have ha := haddr hlt
      rw [ha, add_at] at h1
      rw [ha]
      show CellIn [heapOf W] a.block (a.off + j * E.sz + k) u
      rw [Nat.add_assoc]
      exact cellIn_heapOf h1
set_option maxRecDepth 100000 in
theorem pc_of_trod {n : Nat} {cs : List Value} {x : DataW H × List MemPlace} (h : DataW.trod enc Try.prog W 0 (fun _ => true) true n 33 cs = some x) : ∃ p : Pc, p.Ok ∧ cs = Pc.cells p := by
  obtain ⟨xs, m, _, _, hlen, hxl, hf⟩ := DataW.trod_struct Try.underlying33 h
  have hC : Try.prog.cellsOf 33 = 5 := by kernel_rfl
  have hC5 : Try.prog.cellsOf 5 = 1 := by kernel_rfl
  rw [hC] at hlen
  have hxl5 : xs.length = 5 := hxl
  have hg : ∀ i, i < 5 → ∃ y, xs[i]? = some y := fun i hi => ⟨_, List.getElem?_eq_getElem (by omega)⟩
  match cs, hlen with
  | [c0, c1, c2, c3, c4], _ =>
    obtain ⟨y0, e0⟩ := hg 0 (by decide)
    obtain ⟨y1, e1⟩ := hg 1 (by decide)
    obtain ⟨y2, e2⟩ := hg 2 (by decide)
    obtain ⟨y3, e3⟩ := hg 3 (by decide)
    obtain ⟨y4, e4⟩ := hg 4 (by decide)
    obtain ⟨q0, f0, _, w0⟩ := DataW.trod_int Try.underlying5 ((hf 0 _ rfl).trans e0)
    obtain ⟨q1, f1, _, w1⟩ := DataW.trod_int Try.underlying5 ((hf 1 _ rfl).trans e1)
    obtain ⟨q2, f2, _, w2⟩ := DataW.trod_int Try.underlying5 ((hf 2 _ rfl).trans e2)
    obtain ⟨q3, f3, _, w3⟩ := DataW.trod_int Try.underlying5 ((hf 3 _ rfl).trans e3)
    obtain ⟨q4, f4, _, w4⟩ := DataW.trod_int Try.underlying5 ((hf 4 _ rfl).trans e4)
    simp [hC5] at f0 f1 f2 f3 f4
    subst f0; subst f1; subst f2; subst f3; subst f4
    exact ⟨⟨q0, q1, q2, q3, q4⟩, ⟨bounds_u8 w0, bounds_u8 w1, bounds_u8 w2, bounds_u8 w3, bounds_u8 w4⟩, rfl⟩
end
end Go.Proofs.Ytjhbgciocffihaa
