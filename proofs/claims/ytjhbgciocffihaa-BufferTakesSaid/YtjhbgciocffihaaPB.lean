-- written by gen.py out of walks texts of my own
import Derived.Test.YtjhbgciocffihaaPA
import Derived.Test.YtjhbgciocffihaaB25
set_option linter.unusedVariables false
set_option linter.unusedSimpArgs false
set_option maxHeartbeats 4000000
namespace Go.Proofs.Ytjhbgciocffihaa
open Go.ChangeShapes Go.WideShapes Go.ChangeAt Go.RowKit Go.Deep
section
variable {H : Type} {enc : TypeId × Value → H} {W : World}
theorem slice_cell {P : Program} {t e : TypeId} {n : Nat} {cs : List Value} {x : DataW H × List MemPlace} (ht : P.underlying t = some (.slice e)) (h : DataW.trod enc P W 0 (fun _ => true) true n t cs = some x) : ∃ A len cap, cs = [.slice A len cap] := by
  rcases open_slice ht h with ⟨rfl, _⟩ | ⟨a, len, cap, _, _, _, _, rfl, _⟩
  · exact ⟨_, _, _, rfl⟩
  · exact ⟨_, _, _, rfl⟩
theorem els_of_cells {α : Type} {E : Enc α} {P : Program} {t e : TypeId} {Q : α → Prop} {A : Option Addr} {len cap : Nat} {n : Nat} {x : DataW H × List MemPlace} (ht : P.underlying t = some (.slice e)) (hC : P.cellsOf e = E.sz)
    (hel : ∀ n cs x, DataW.trod enc P W 0 (fun _ => true) true n e cs = some x → ∃ a, Q a ∧ cs = E.cells a)
    (h : DataW.trod enc P W 0 (fun _ => true) true n t [.slice A len cap] = some x) : ∃ xs : List α, (∀ a ∈ xs, Q a) ∧ Els E [heapOf W] (.slice A len cap) xs :=
  els_of_slice ht hC hel (d := x.1) (p := x.2) ⟨n, h⟩
set_option maxRecDepth 100000 in
theorem sp_of_trod {n : Nat} {cs : List Value} {x : DataW H × List MemPlace} (h : DataW.trod enc Try.prog W 0 (fun _ => true) true n 65 cs = some x) :
    ∃ q0 q1, cs = [.int .i64 q0, .int .i64 q1] ∧ (Lit.int .i64 q0).wf = true ∧ (Lit.int .i64 q1).wf = true := by
  obtain ⟨_, _, _, _, hlen, _, _⟩ := DataW.trod_struct Try.underlying65 h
  have hC65 : Try.prog.cellsOf 65 = 2 := by kernel_rfl
  have hC2 : Try.prog.cellsOf 2 = 1 := by kernel_rfl
  rw [hC65] at hlen
  match cs, hlen with
  | [c0, c1], _ =>
    obtain ⟨xs1, m2, _, _, _, hx3, hf4⟩ := DataW.trod_struct Try.underlying65 h
    replace hx3 : xs1.length = 2 := hx3
    obtain ⟨y5, e6⟩ : ∃ y, xs1[0]? = some y := ⟨_, List.getElem?_eq_getElem (by omega)⟩
    have g7 : DataW.trod enc Try.prog W 0 (fun _ => true) true m2 2 [c0] = some y5 := by rw [show ([c0] : List Value) = (([c0, c1] : List Value).drop 0).take (Try.prog.cellsOf 2) by rw [hC2]; rfl]; exact (hf4 0 _ rfl).trans e6
    obtain ⟨q0, f0, _, w0⟩ := DataW.trod_int Try.underlying2 g7
    obtain ⟨y8, e9⟩ : ∃ y, xs1[1]? = some y := ⟨_, List.getElem?_eq_getElem (by omega)⟩
    have g10 : DataW.trod enc Try.prog W 0 (fun _ => true) true m2 2 [c1] = some y8 := by rw [show ([c1] : List Value) = (([c0, c1] : List Value).drop 1).take (Try.prog.cellsOf 2) by rw [hC2]; rfl]; exact (hf4 1 _ rfl).trans e9
    obtain ⟨q1, f1, _, w1⟩ := DataW.trod_int Try.underlying2 g10
    simp only [List.cons.injEq, and_true] at f0; subst f0
    simp only [List.cons.injEq, and_true] at f1; subst f1
    exact ⟨q0, q1, rfl, w0, w1⟩
set_option maxRecDepth 100000 in
theorem ac_of_trod0 {n : Nat} {cs : List Value} {x : DataW H × List MemPlace} (h : DataW.trod enc Try.prog W 0 (fun _ => true) true n 60 cs = some x) :
    ∃ q0 q1 q2 q3 q4 q5 q6 q7 q8 A9 len9 cap9, cs = [.int .u8 q0, .int .i64 q1, .int .i64 q2, .int .i64 q3, .int .i64 q4, .int .i64 q5, .int .i64 q6, .int .i64 q7, .int .i64 q8, .slice A9 len9 cap9] ∧ (Lit.int .u8 q0).wf = true ∧ (Lit.int .i64 q1).wf = true ∧ (Lit.int .i64 q2).wf = true ∧ (Lit.int .i64 q3).wf = true ∧ (Lit.int .i64 q4).wf = true ∧ (Lit.int .i64 q5).wf = true ∧ (Lit.int .i64 q6).wf = true ∧ (Lit.int .i64 q7).wf = true ∧ (Lit.int .i64 q8).wf = true ∧ (∃ m y, DataW.trod enc Try.prog W 0 (fun _ => true) true m 58 [.slice A9 len9 cap9] = some y) := by
  obtain ⟨_, _, _, _, hlen, _, _⟩ := DataW.trod_struct Try.underlying60 h
  have hC60 : Try.prog.cellsOf 60 = 10 := by kernel_rfl
  have hC2 : Try.prog.cellsOf 2 = 1 := by kernel_rfl
  have hC3 : Try.prog.cellsOf 3 = 1 := by kernel_rfl
  have hC5 : Try.prog.cellsOf 5 = 1 := by kernel_rfl
  have hC31 : Try.prog.cellsOf 31 = 5 := by kernel_rfl
  have hC58 : Try.prog.cellsOf 58 = 1 := by kernel_rfl
  rw [hC60] at hlen
  match cs, hlen with
  | [c0, c1, c2, c3, c4, c5, c6, c7, c8, c9], _ =>
    obtain ⟨xs1, m2, _, _, _, hx3, hf4⟩ := DataW.trod_struct Try.underlying60 h
    replace hx3 : xs1.length = 6 := hx3
    obtain ⟨y5, e6⟩ : ∃ y, xs1[0]? = some y := ⟨_, List.getElem?_eq_getElem (by omega)⟩
    have g7 : DataW.trod enc Try.prog W 0 (fun _ => true) true m2 5 [c0] = some y5 := by rw [show ([c0] : List Value) = (([c0, c1, c2, c3, c4, c5, c6, c7, c8, c9] : List Value).drop 0).take (Try.prog.cellsOf 5) by rw [hC5]; rfl]; exact (hf4 0 _ rfl).trans e6
    obtain ⟨q0, f0, _, w0⟩ := DataW.trod_int Try.underlying5 g7
    obtain ⟨y8, e9⟩ : ∃ y, xs1[1]? = some y := ⟨_, List.getElem?_eq_getElem (by omega)⟩
    have g10 : DataW.trod enc Try.prog W 0 (fun _ => true) true m2 31 [c1, c2, c3, c4, c5] = some y8 := by rw [show ([c1, c2, c3, c4, c5] : List Value) = (([c0, c1, c2, c3, c4, c5, c6, c7, c8, c9] : List Value).drop 1).take (Try.prog.cellsOf 31) by rw [hC31]; rfl]; exact (hf4 1 _ rfl).trans e9
    obtain ⟨xs11, m12, _, _, _, hx13, hf14⟩ := DataW.trod_struct Try.underlying31 g10
    replace hx13 : xs11.length = 5 := hx13
    obtain ⟨y15, e16⟩ : ∃ y, xs11[0]? = some y := ⟨_, List.getElem?_eq_getElem (by omega)⟩
    have g17 : DataW.trod enc Try.prog W 0 (fun _ => true) true m12 2 [c1] = some y15 := by rw [show ([c1] : List Value) = (([c1, c2, c3, c4, c5] : List Value).drop 0).take (Try.prog.cellsOf 2) by rw [hC2]; rfl]; exact (hf14 0 _ rfl).trans e16
    obtain ⟨q1, f1, _, w1⟩ := DataW.trod_int Try.underlying2 g17
    obtain ⟨y18, e19⟩ : ∃ y, xs11[1]? = some y := ⟨_, List.getElem?_eq_getElem (by omega)⟩
    have g20 : DataW.trod enc Try.prog W 0 (fun _ => true) true m12 3 [c2] = some y18 := by rw [show ([c2] : List Value) = (([c1, c2, c3, c4, c5] : List Value).drop 1).take (Try.prog.cellsOf 3) by rw [hC3]; rfl]; exact (hf14 1 _ rfl).trans e19
    obtain ⟨q2, f2, _, w2⟩ := DataW.trod_int Try.underlying3 g20
    obtain ⟨y21, e22⟩ : ∃ y, xs11[2]? = some y := ⟨_, List.getElem?_eq_getElem (by omega)⟩
    have g23 : DataW.trod enc Try.prog W 0 (fun _ => true) true m12 2 [c3] = some y21 := by rw [show ([c3] : List Value) = (([c1, c2, c3, c4, c5] : List Value).drop 2).take (Try.prog.cellsOf 2) by rw [hC2]; rfl]; exact (hf14 2 _ rfl).trans e22
    obtain ⟨q3, f3, _, w3⟩ := DataW.trod_int Try.underlying2 g23
    obtain ⟨y24, e25⟩ : ∃ y, xs11[3]? = some y := ⟨_, List.getElem?_eq_getElem (by omega)⟩
    have g26 : DataW.trod enc Try.prog W 0 (fun _ => true) true m12 2 [c4] = some y24 := by rw [show ([c4] : List Value) = (([c1, c2, c3, c4, c5] : List Value).drop 3).take (Try.prog.cellsOf 2) by rw [hC2]; rfl]; exact (hf14 3 _ rfl).trans e25
    obtain ⟨q4, f4, _, w4⟩ := DataW.trod_int Try.underlying2 g26
    obtain ⟨y27, e28⟩ : ∃ y, xs11[4]? = some y := ⟨_, List.getElem?_eq_getElem (by omega)⟩
    have g29 : DataW.trod enc Try.prog W 0 (fun _ => true) true m12 2 [c5] = some y27 := by rw [show ([c5] : List Value) = (([c1, c2, c3, c4, c5] : List Value).drop 4).take (Try.prog.cellsOf 2) by rw [hC2]; rfl]; exact (hf14 4 _ rfl).trans e28
    obtain ⟨q5, f5, _, w5⟩ := DataW.trod_int Try.underlying2 g29
    obtain ⟨y30, e31⟩ : ∃ y, xs1[2]? = some y := ⟨_, List.getElem?_eq_getElem (by omega)⟩
    have g32 : DataW.trod enc Try.prog W 0 (fun _ => true) true m2 2 [c6] = some y30 := by rw [show ([c6] : List Value) = (([c0, c1, c2, c3, c4, c5, c6, c7, c8, c9] : List Value).drop 6).take (Try.prog.cellsOf 2) by rw [hC2]; rfl]; exact (hf4 2 _ rfl).trans e31
    obtain ⟨q6, f6, _, w6⟩ := DataW.trod_int Try.underlying2 g32
    obtain ⟨y33, e34⟩ : ∃ y, xs1[3]? = some y := ⟨_, List.getElem?_eq_getElem (by omega)⟩
    have g35 : DataW.trod enc Try.prog W 0 (fun _ => true) true m2 2 [c7] = some y33 := by rw [show ([c7] : List Value) = (([c0, c1, c2, c3, c4, c5, c6, c7, c8, c9] : List Value).drop 7).take (Try.prog.cellsOf 2) by rw [hC2]; rfl]; exact (hf4 3 _ rfl).trans e34
    obtain ⟨q7, f7, _, w7⟩ := DataW.trod_int Try.underlying2 g35
    obtain ⟨y36, e37⟩ : ∃ y, xs1[4]? = some y := ⟨_, List.getElem?_eq_getElem (by omega)⟩
    have g38 : DataW.trod enc Try.prog W 0 (fun _ => true) true m2 2 [c8] = some y36 := by rw [show ([c8] : List Value) = (([c0, c1, c2, c3, c4, c5, c6, c7, c8, c9] : List Value).drop 8).take (Try.prog.cellsOf 2) by rw [hC2]; rfl]; exact (hf4 4 _ rfl).trans e37
    obtain ⟨q8, f8, _, w8⟩ := DataW.trod_int Try.underlying2 g38
    obtain ⟨y39, e40⟩ : ∃ y, xs1[5]? = some y := ⟨_, List.getElem?_eq_getElem (by omega)⟩
    have g41 : DataW.trod enc Try.prog W 0 (fun _ => true) true m2 58 [c9] = some y39 := by rw [show ([c9] : List Value) = (([c0, c1, c2, c3, c4, c5, c6, c7, c8, c9] : List Value).drop 9).take (Try.prog.cellsOf 58) by rw [hC58]; rfl]; exact (hf4 5 _ rfl).trans e40
    obtain ⟨A9, len9, cap9, f9⟩ := slice_cell Try.underlying58 g41
    simp only [List.cons.injEq, and_true] at f0; subst f0
    simp only [List.cons.injEq, and_true] at f1; subst f1
    simp only [List.cons.injEq, and_true] at f2; subst f2
    simp only [List.cons.injEq, and_true] at f3; subst f3
    simp only [List.cons.injEq, and_true] at f4; subst f4
    simp only [List.cons.injEq, and_true] at f5; subst f5
    simp only [List.cons.injEq, and_true] at f6; subst f6
    simp only [List.cons.injEq, and_true] at f7; subst f7
    simp only [List.cons.injEq, and_true] at f8; subst f8
    simp only [List.cons.injEq, and_true] at f9; subst f9
    exact ⟨q0, q1, q2, q3, q4, q5, q6, q7, q8, A9, len9, cap9, rfl, w0, w1, w2, w3, w4, w5, w6, w7, w8, ⟨_, _, g41⟩⟩
theorem ac_of_trod {n : Nat} {cs : List Value} {x : DataW H × List MemPlace} (h : DataW.trod enc Try.prog W 0 (fun _ => true) true n 60 cs = some x) : ∃ p : Ac, p.Ok [heapOf W] ∧ cs = Ac.cells p := by
  obtain ⟨k, q1, q2, q3, q4, q5, q6, q7, q8, A, len, cap, rfl, wk, _, _, _, _, _, _, _, _, m, y, hs⟩ := ac_of_trod0 h
  obtain ⟨S, _, hS⟩ := els_of_cells (E := encSp) (Q := fun _ => True) Try.underlying58 (by kernel_rfl) (fun n cs x h => by obtain ⟨a, b, rfl, _, _⟩ := sp_of_trod h; exact ⟨⟨a, b⟩, trivial, rfl⟩) hs
  exact ⟨⟨k, ⟨q1, q2, q3, q4, q5⟩, q6, q7, q8, A, len, cap⟩, ⟨bounds_u8 wk, S, hS⟩, rfl⟩
end
end Go.Proofs.Ytjhbgciocffihaa
