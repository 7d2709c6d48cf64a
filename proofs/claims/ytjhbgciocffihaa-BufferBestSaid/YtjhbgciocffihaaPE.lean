-- written by gen.py out of walks texts of my own
import Derived.Test.YtjhbgciocffihaaPA
import Derived.Test.YtjhbgciocffihaaB39
set_option linter.unusedVariables false
set_option linter.unusedSimpArgs false
set_option maxHeartbeats 4000000
namespace Go.Proofs.Ytjhbgciocffihaa
open Go.ChangeShapes Go.WideShapes Go.ChangeAt Go.RowKit Go.Deep
section
variable {H : Type} {enc : TypeId × Value → H} {W : World}
set_option maxRecDepth 100000 in
theorem pr_of_trod {n : Nat} {cs : List Value} {x : DataW H × List MemPlace} (h : DataW.trod enc Try.prog W 0 (fun _ => true) true n 149 cs = some x) : ∃ p : Pr, p.Ok ∧ cs = Pr.cells p := by
  obtain ⟨xs, m, _, _, hlen, hxl, hf⟩ := DataW.trod_array Try.underlying149 h
  have hC : Try.prog.cellsOf 149 = 2 := by kernel_rfl
  have hC5 : Try.prog.cellsOf 5 = 1 := by kernel_rfl
  rw [hC] at hlen
  have hg : ∀ i, i < 2 → ∃ y, xs[i]? = some y := fun i hi => ⟨_, List.getElem?_eq_getElem (by omega)⟩
  match cs, hlen with
  | [c0, c1], _ =>
    obtain ⟨y0, e0⟩ := hg 0 (by decide)
    obtain ⟨y1, e1⟩ := hg 1 (by decide)
    obtain ⟨q0, f0, _, w0⟩ := DataW.trod_int Try.underlying5 ((hf 0 (by decide)).trans e0)
    obtain ⟨q1, f1, _, w1⟩ := DataW.trod_int Try.underlying5 ((hf 1 (by decide)).trans e1)
    simp [hC5] at f0 f1
    subst f0; subst f1
    exact ⟨⟨q0, q1⟩, ⟨bounds_u8 w0, bounds_u8 w1⟩, rfl⟩
end
theorem BufferBest_specI {e : Env} {w : World} {rs : List Part} (ps : List Pr) (hps : ∀ p ∈ ps, p.Ok) (v0 : Value) (hE : Els encPr rs v0 ps) (y z b : Int) (hy0 : 0 ≤ y ∧ y ≤ 65535) (hz0 : 0 ≤ z ∧ z ≤ 65535) (hb : 0 ≤ b) (hT : Tot e w rs) : Spec Try.prog 8 #[v0, .int .u16 y, .int .u32 b, .int .u16 z] e w rs (fun v L => v = .bool true ∧ L = []) := by
  obtain ⟨n, rfl⟩ := Int.eq_ofNat_of_zero_le hb
  exact BufferBest_spec ps hps v0 hE y z hy0 hz0 n hT
end Go.Proofs.Ytjhbgciocffihaa
