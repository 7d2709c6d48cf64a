-- written by gen.py out of walks texts of my own
import Derived.Test.YtjhbgciocffihaaPA
import Derived.Test.YtjhbgciocffihaaB43
set_option linter.unusedVariables false
set_option linter.unusedSimpArgs false
set_option maxHeartbeats 4000000
namespace Go.Proofs.Ytjhbgciocffihaa
open Go.ChangeShapes Go.WideShapes Go.ChangeAt Go.RowKit Go.Deep
section
variable {H : Type} {enc : TypeId × Value → H} {W : World}
private theorem slice_cell {P : Program} {t e : TypeId} {n : Nat} {cs : List Value} {x : DataW H × List MemPlace} (ht : P.underlying t = some (.slice e)) (h : DataW.trod enc P W 0 (fun _ => true) true n t cs = some x) : ∃ A len cap, cs = [.slice A len cap] := by
  rcases open_slice ht h with ⟨rfl, _⟩ | ⟨a, len, cap, _, _, _, _, rfl, _⟩
  · exact ⟨_, _, _, rfl⟩
  · exact ⟨_, _, _, rfl⟩
set_option maxRecDepth 100000 in
theorem rd_of_trod0 {n : Nat} {cs : List Value} {x : DataW H × List MemPlace} (h : DataW.trod enc Try.prog W 0 (fun _ => true) true n 100 cs = some x) :
    ∃ q0 q1 q2 A3 len3 cap3, cs = [.int .u16 q0, .int .u16 q1, .bool q2, .slice A3 len3 cap3] ∧ (Lit.int .u16 q0).wf = true ∧ (Lit.int .u16 q1).wf = true ∧ (∃ m y, DataW.trod enc Try.prog W 0 (fun _ => true) true m 23 [.slice A3 len3 cap3] = some y) := by
  obtain ⟨_, _, _, _, hlen, _, _⟩ := DataW.trod_struct Try.underlying100 h
  have hC100 : Try.prog.cellsOf 100 = 4 := by kernel_rfl
  have hC4 : Try.prog.cellsOf 4 = 1 := by kernel_rfl
  have hC22 : Try.prog.cellsOf 22 = 1 := by kernel_rfl
  have hC23 : Try.prog.cellsOf 23 = 1 := by kernel_rfl
  rw [hC100] at hlen
  match cs, hlen with
  | [c0, c1, c2, c3], _ =>
    obtain ⟨xs1, m2, _, _, _, hx3, hf4⟩ := DataW.trod_struct Try.underlying100 h
    replace hx3 : xs1.length = 4 := hx3
    obtain ⟨y5, e6⟩ : ∃ y, xs1[0]? = some y := ⟨_, List.getElem?_eq_getElem (by omega)⟩
    have g7 : DataW.trod enc Try.prog W 0 (fun _ => true) true m2 22 [c0] = some y5 := by rw [show ([c0] : List Value) = (([c0, c1, c2, c3] : List Value).drop 0).take (Try.prog.cellsOf 22) by rw [hC22]; rfl]; exact (hf4 0 _ rfl).trans e6
    obtain ⟨q0, f0, _, w0⟩ := DataW.trod_int Try.underlying22 g7
    obtain ⟨y8, e9⟩ : ∃ y, xs1[1]? = some y := ⟨_, List.getElem?_eq_getElem (by omega)⟩
    have g10 : DataW.trod enc Try.prog W 0 (fun _ => true) true m2 22 [c1] = some y8 := by rw [show ([c1] : List Value) = (([c0, c1, c2, c3] : List Value).drop 1).take (Try.prog.cellsOf 22) by rw [hC22]; rfl]; exact (hf4 1 _ rfl).trans e9
    obtain ⟨q1, f1, _, w1⟩ := DataW.trod_int Try.underlying22 g10
    obtain ⟨y11, e12⟩ : ∃ y, xs1[2]? = some y := ⟨_, List.getElem?_eq_getElem (by omega)⟩
    have g13 : DataW.trod enc Try.prog W 0 (fun _ => true) true m2 4 [c2] = some y11 := by rw [show ([c2] : List Value) = (([c0, c1, c2, c3] : List Value).drop 2).take (Try.prog.cellsOf 4) by rw [hC4]; rfl]; exact (hf4 2 _ rfl).trans e12
    obtain ⟨q2, f2, _⟩ := DataW.trod_bool Try.underlying4 g13
    obtain ⟨y14, e15⟩ : ∃ y, xs1[3]? = some y := ⟨_, List.getElem?_eq_getElem (by omega)⟩
    have g16 : DataW.trod enc Try.prog W 0 (fun _ => true) true m2 23 [c3] = some y14 := by rw [show ([c3] : List Value) = (([c0, c1, c2, c3] : List Value).drop 3).take (Try.prog.cellsOf 23) by rw [hC23]; rfl]; exact (hf4 3 _ rfl).trans e15
    obtain ⟨A3, len3, cap3, f3⟩ := slice_cell Try.underlying23 g16
    simp only [List.cons.injEq, and_true] at f0; subst f0
    simp only [List.cons.injEq, and_true] at f1; subst f1
    simp only [List.cons.injEq, and_true] at f2; subst f2
    simp only [List.cons.injEq, and_true] at f3; subst f3
    exact ⟨q0, q1, q2, A3, len3, cap3, rfl, w0, w1, ⟨_, _, g16⟩⟩
theorem rd_of_trod {n : Nat} {cs : List Value} {x : DataW H × List MemPlace} (h : DataW.trod enc Try.prog W 0 (fun _ => true) true n 100 cs = some x) : ∃ p : Rd, p.Ok [heapOf W] ∧ cs = encRd.cells p := by
  obtain ⟨q0, q1, q2, A, len, cap, rfl, w0, w1, m, y, hs⟩ := rd_of_trod0 h
  obtain ⟨pcs, hP, hE⟩ := els_of_slice (E := encPc) (Q := Pc.Ok) Try.underlying23 (by kernel_rfl) (fun n cs x h => pc_of_trod h) (d := y.1) (p := y.2) ⟨m, hs⟩
  obtain ⟨lo, rfl⟩ := Int.eq_ofNat_of_zero_le (bounds_u16 w1).1
  exact ⟨⟨q0, lo, q2, A, len, cap⟩, ⟨bounds_u16 w0, pcs, hP, hE⟩, rfl⟩
end
end Go.Proofs.Ytjhbgciocffihaa
