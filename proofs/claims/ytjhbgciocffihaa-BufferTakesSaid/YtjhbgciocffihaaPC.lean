-- written by gen.py out of walks texts of my own
import Derived.Test.YtjhbgciocffihaaPB
set_option linter.unusedVariables false
set_option linter.unusedSimpArgs false
set_option maxHeartbeats 4000000
namespace Go.Proofs.Ytjhbgciocffihaa
open Go.ChangeShapes Go.WideShapes Go.ChangeAt Go.RowKit Go.Deep
section
variable {H : Type} {enc : TypeId × Value → H} {W : World}
set_option maxRecDepth 100000 in
theorem rec_of_trod0 {n : Nat} {cs : List Value} {x : DataW H × List MemPlace} (h : DataW.trod enc Try.prog W 0 (fun _ => true) true n 31 cs = some x) :
    ∃ q0 q1 q2 q3 q4, cs = [.int .i64 q0, .int .i64 q1, .int .i64 q2, .int .i64 q3, .int .i64 q4] ∧ (Lit.int .i64 q0).wf = true ∧ (Lit.int .i64 q1).wf = true ∧ (Lit.int .i64 q2).wf = true ∧ (Lit.int .i64 q3).wf = true ∧ (Lit.int .i64 q4).wf = true := by
  obtain ⟨_, _, _, _, hlen, _, _⟩ := DataW.trod_struct Try.underlying31 h
  have hC31 : Try.prog.cellsOf 31 = 5 := by kernel_rfl
  have hC2 : Try.prog.cellsOf 2 = 1 := by kernel_rfl
  have hC3 : Try.prog.cellsOf 3 = 1 := by kernel_rfl
  rw [hC31] at hlen
  match cs, hlen with
  | [c0, c1, c2, c3, c4], _ =>
    obtain ⟨xs1, m2, _, _, _, hx3, hf4⟩ := DataW.trod_struct Try.underlying31 h
    replace hx3 : xs1.length = 5 := hx3
    obtain ⟨y5, e6⟩ : ∃ y, xs1[0]? = some y := ⟨_, List.getElem?_eq_getElem (by omega)⟩
    have g7 : DataW.trod enc Try.prog W 0 (fun _ => true) true m2 2 [c0] = some y5 := by rw [show ([c0] : List Value) = (([c0, c1, c2, c3, c4] : List Value).drop 0).take (Try.prog.cellsOf 2) by rw [hC2]; rfl]; exact (hf4 0 _ rfl).trans e6
    obtain ⟨q0, f0, _, w0⟩ := DataW.trod_int Try.underlying2 g7
    obtain ⟨y8, e9⟩ : ∃ y, xs1[1]? = some y := ⟨_, List.getElem?_eq_getElem (by omega)⟩
    have g10 : DataW.trod enc Try.prog W 0 (fun _ => true) true m2 3 [c1] = some y8 := by rw [show ([c1] : List Value) = (([c0, c1, c2, c3, c4] : List Value).drop 1).take (Try.prog.cellsOf 3) by rw [hC3]; rfl]; exact (hf4 1 _ rfl).trans e9
    obtain ⟨q1, f1, _, w1⟩ := DataW.trod_int Try.underlying3 g10
    obtain ⟨y11, e12⟩ : ∃ y, xs1[2]? = some y := ⟨_, List.getElem?_eq_getElem (by omega)⟩
    have g13 : DataW.trod enc Try.prog W 0 (fun _ => true) true m2 2 [c2] = some y11 := by rw [show ([c2] : List Value) = (([c0, c1, c2, c3, c4] : List Value).drop 2).take (Try.prog.cellsOf 2) by rw [hC2]; rfl]; exact (hf4 2 _ rfl).trans e12
    obtain ⟨q2, f2, _, w2⟩ := DataW.trod_int Try.underlying2 g13
    obtain ⟨y14, e15⟩ : ∃ y, xs1[3]? = some y := ⟨_, List.getElem?_eq_getElem (by omega)⟩
    have g16 : DataW.trod enc Try.prog W 0 (fun _ => true) true m2 2 [c3] = some y14 := by rw [show ([c3] : List Value) = (([c0, c1, c2, c3, c4] : List Value).drop 3).take (Try.prog.cellsOf 2) by rw [hC2]; rfl]; exact (hf4 3 _ rfl).trans e15
    obtain ⟨q3, f3, _, w3⟩ := DataW.trod_int Try.underlying2 g16
    obtain ⟨y17, e18⟩ : ∃ y, xs1[4]? = some y := ⟨_, List.getElem?_eq_getElem (by omega)⟩
    have g19 : DataW.trod enc Try.prog W 0 (fun _ => true) true m2 2 [c4] = some y17 := by rw [show ([c4] : List Value) = (([c0, c1, c2, c3, c4] : List Value).drop 4).take (Try.prog.cellsOf 2) by rw [hC2]; rfl]; exact (hf4 4 _ rfl).trans e18
    obtain ⟨q4, f4, _, w4⟩ := DataW.trod_int Try.underlying2 g19
    simp only [List.cons.injEq, and_true] at f0; subst f0
    simp only [List.cons.injEq, and_true] at f1; subst f1
    simp only [List.cons.injEq, and_true] at f2; subst f2
    simp only [List.cons.injEq, and_true] at f3; subst f3
    simp only [List.cons.injEq, and_true] at f4; subst f4
    exact ⟨q0, q1, q2, q3, q4, rfl, w0, w1, w2, w3, w4⟩
theorem rec_of_trod {n : Nat} {cs : List Value} {x : DataW H × List MemPlace} (h : DataW.trod enc Try.prog W 0 (fun _ => true) true n 31 cs = some x) : ∃ p : Rec, True ∧ cs = encRec.cells p := by
  obtain ⟨q0, q1, q2, q3, q4, rfl, _⟩ := rec_of_trod0 h
  exact ⟨⟨q0, q1, q2, q3, q4⟩, trivial, rfl⟩
end
end Go.Proofs.Ytjhbgciocffihaa
