-- written by gen.py out of walks texts of my own
import Derived.Test.YtjhbgciocffihaaPA
import Derived.Test.YtjhbgciocffihaaB33
set_option linter.unusedVariables false
set_option linter.unusedSimpArgs false
set_option maxHeartbeats 4000000
namespace Go.Proofs.Ytjhbgciocffihaa
open Go.ChangeShapes Go.WideShapes Go.ChangeAt Go.RowKit Go.Deep
section
variable {H : Type} {enc : TypeId × Value → H} {W : World}
set_option maxRecDepth 100000 in
theorem pcl_of_trod0 {n : Nat} {cs : List Value} {x : DataW H × List MemPlace} (h : DataW.trod enc Try.prog W 0 (fun _ => true) true n 90 cs = some x) :
    ∃ q0 q1, cs = [.int .i64 q0, .int .i64 q1] ∧ (Lit.int .i64 q0).wf = true ∧ (Lit.int .i64 q1).wf = true := by
  obtain ⟨_, _, _, _, hlen, _, _⟩ := DataW.trod_struct Try.underlying90 h
  have hC90 : Try.prog.cellsOf 90 = 2 := by kernel_rfl
  have hC2 : Try.prog.cellsOf 2 = 1 := by kernel_rfl
  rw [hC90] at hlen
  match cs, hlen with
  | [c0, c1], _ =>
    obtain ⟨xs1, m2, _, _, _, hx3, hf4⟩ := DataW.trod_struct Try.underlying90 h
    replace hx3 : xs1.length = 2 := hx3
    obtain ⟨y5, e6⟩ : ∃ y, xs1[0]? = some y := ⟨_, List.getElem?_eq_getElem (by omega)⟩
    have g7 : DataW.trod enc Try.prog W 0 (fun _ => true) true m2 2 [c0] = some y5 := by rw [show ([c0] : List Value) = (([c0, c1] : List Value).drop 0).take (Try.prog.cellsOf 2) by rw [hC2]; rfl]; exact (hf4 0 _ rfl).trans e6
    obtain ⟨q0, f0, _, w0⟩ := DataW.trod_int Try.underlying2 g7
    obtain ⟨y8, e9⟩ : ∃ y, xs1[1]? = some y := ⟨_, List.getElem?_eq_getElem (by omega)⟩
    have g10 : DataW.trod enc Try.prog W 0 (fun _ => true) true m2 2 [c1] = some y8 := by rw [show ([c1] : List Value) = (([c0, c1] : List Value).drop 1).take (Try.prog.cellsOf 2) by rw [hC2]; rfl]; exact (hf4 1 _ rfl).trans e9
    obtain ⟨q1, f1, _, w1⟩ := DataW.trod_int Try.underlying2 g10
    simp only [List.cons.injEq, and_true] at f0; subst f0
    simp only [List.cons.injEq, and_true] at f1; subst f1
    exact ⟨q0, q1, rfl, w0, w1⟩
theorem pcl_of_trod {n : Nat} {cs : List Value} {x : DataW H × List MemPlace} (h : DataW.trod enc Try.prog W 0 (fun _ => true) true n 90 cs = some x) : ∃ p : Pcl, True ∧ cs = encPl.cells p := by
  obtain ⟨q0, q1, rfl, _⟩ := pcl_of_trod0 h
  exact ⟨⟨q0, q1⟩, trivial, rfl⟩
theorem cap_of_slice {α : Type} {E : Enc α} {R : List Part} {xs : List α} {P : Program} {t e : TypeId} {A : Option Addr} {len cap : Nat} {d : DataW H} {p : List MemPlace} (ht : P.underlying t = some (.slice e)) (h : DataW.Trod enc P W 0 (fun _ => true) true t (.slice A len cap) d p) (hE : Els E R (.slice A len cap) xs) : xs.length ≤ capOf (.slice A len cap) := by
  obtain ⟨fuel, hf⟩ := h
  have hc0 : (Value.slice A len cap).cells.toList = [.slice A len cap] := by simp [Value.cells]
  rw [hc0] at hf
  obtain ⟨A', c', he, _⟩ := hE.shape
  simp only [Value.slice.injEq] at he
  obtain ⟨_, hl, _⟩ := he
  show xs.length ≤ cap
  rcases open_slice ht hf with ⟨hcs, _⟩ | ⟨a, len', cap', m, n, D, Pl, hcs, hb, hl', hm, hmm, hx, hi⟩
  · simp at hcs; omega
  · simp at hcs; omega
end
end Go.Proofs.Ytjhbgciocffihaa
