/- PROVED: for every capacity and every list of pieces and every list of bursts BufferBursts returns true, and its arguments read behind the call as they read before. Conditions: none but those that the given row itself bears. -/
import Derived.Test.YtjhbgciocffihaaPA
import Derived.Test.YtjhbgciocffihaaB18
set_option linter.unusedVariables false
set_option linter.unusedSimpArgs false
namespace Go.Proofs.Ytjhbgciocffihaa
open Go.ChangeShapes Go.WideShapes Go.ChangeAt Go.RowKit
section
variable {H : Type} {enc : TypeId × Value → H} {W : World}
set_option maxRecDepth 100000 in
theorem tri_of_trod {n : Nat} {cs : List Value} {x : DataW H × List MemPlace} (h : DataW.trod enc Try.prog W 0 (fun _ => true) true n 50 cs = some x) : ∃ p : Tri, p.Ok ∧ cs = Tri.cells p := by
  obtain ⟨xs, m, _, _, hlen, hxl, hf⟩ := DataW.trod_array Try.underlying50 h
  have hC : Try.prog.cellsOf 50 = 3 := by kernel_rfl
  have hC5 : Try.prog.cellsOf 5 = 1 := by kernel_rfl
  rw [hC] at hlen
  have hg : ∀ i, i < 3 → ∃ y, xs[i]? = some y := fun i hi => ⟨_, List.getElem?_eq_getElem (by omega)⟩
  match cs, hlen with
  | [c0, c1, c2], _ =>
    obtain ⟨y0, e0⟩ := hg 0 (by decide)
    obtain ⟨y1, e1⟩ := hg 1 (by decide)
    obtain ⟨y2, e2⟩ := hg 2 (by decide)
    obtain ⟨q0, f0, _, w0⟩ := DataW.trod_int Try.underlying5 ((hf 0 (by decide)).trans e0)
    obtain ⟨q1, f1, _, w1⟩ := DataW.trod_int Try.underlying5 ((hf 1 (by decide)).trans e1)
    obtain ⟨q2, f2, _, w2⟩ := DataW.trod_int Try.underlying5 ((hf 2 (by decide)).trans e2)
    simp [hC5] at f0 f1 f2
    subst f0; subst f1; subst f2
    exact ⟨⟨q0, q1, q2⟩, ⟨bounds_u8 w0, bounds_u8 w1, bounds_u8 w2⟩, rfl⟩
end
set_option maxRecDepth 100000 in
theorem bufferBursts_lifted (os : Os) (started : os.Started) (H : Type) (enc : TypeId × Value → H) :
    ReturnsInHanded {} Try.checked os 4 .any (Rows.bufferBurstsSpec.pre6 enc Try.prog Try.f4 Rows.bufferBurstsRow.domain false) (Rows.bufferBurstsSpec.post enc Try.prog Try.f4 false true false false) := by
  refine returnsInHanded_of_change (C := Try.checked) Try.own started (by kernel_rfl) Try.func4
    (ChangeSpec.witness6 (enc := enc) (C := Try.checked) false ⟨#[], #[.int .u16 0, .slice none 0 0, .slice none 0 0], []⟩ 8 (by kernel_rfl) (by kernel_rfl) (by kernel_rfl) (by kernel_rfl)) ?_
  intro W base args ds gs before hval0 hW hcnd _
  have hval : ∀ (j : Nat) t v, Try.f4.params[j]? = some t → args[j]? = some v → Value.okWide Try.prog W .any base t v := hval0
  have hW' := hW
  obtain ⟨p, q, hA0, hV, rfl, hfz, hnd⟩ := hW
  have hA : DataW.TrodAll enc Try.prog W 0 (fun _ => true) true Try.f4.params.toList args.toList ds p := hA0
  rw [Try.params4] at hA hval
  obtain ⟨v0, v1, v2, d0, d1, d2, p0, p1, p2, rfl, rfl, rfl, h0, h1, h2⟩ := trodAll_three hA
  obtain ⟨rfl, rfl⟩ := trodVars_none hV
  have h0k := h0
  have h1k := h1
  have h2k := h2
  obtain ⟨a, rfl, rfl, rfl, wa⟩ := open_int Try.underlying22 (hval 0 22 v0 rfl rfl) h0
  obtain ⟨a0, len, cap, rfl⟩ := okWide_slice Try.underlying23 (hval 1 23 v1 rfl rfl)
  obtain ⟨a2, len2, cap2, rfl⟩ := okWide_slice Try.underlying49 (hval 2 49 v2 rfl rfl)
  simp only [List.append_nil] at hW'
  obtain ⟨pcs, hPc, hE⟩ := els_of_slice (E := encPc) (Q := Pc.Ok) Try.underlying23 (by kernel_rfl) (fun n cs x h => pc_of_trod h) h1
  obtain ⟨trs, hTr, hE2⟩ := els_of_slice (E := encTri) (Q := Tri.Ok) Try.underlying49 (by kernel_rfl) (fun n cs x h => tri_of_trod h) h2
  have hlt : ∀ x ∈ p1, x.block < W.heap.size := fun x hx => by simpa using hW'.lt x (by simp [hx])
  have hlt2 : ∀ x ∈ p2, x.block < W.heap.size := fun x hx => by simpa using hW'.lt x (by simp [hx])
  refine Calls.mono (BufferBursts_spec a (bounds_u16 wa) pcs hPc trs hTr _ _ hE hE2 (tot_heapOf W)) fun en w' h => ?_
  obtain ⟨v, L, hen, ⟨hv, hL⟩, hT⟩ := h
  subst hv
  have hb := below_of_tot hT
  refine ⟨_, hen, _, _, _, [], [] ++ (p1 ++ p2), [], hW', ?_, ?_, rfl, hb.frame _, fun h => by cases h⟩
  · exact trodAll_mk1 (shut_bool Try.underlying4 true)
  · exact trodAll_mk3 (shut_int Try.underlying22 wa) (Below.trod Try.laidOut (by kernel_rfl) (of_decide_eq_true (by kernel_rfl)) h1k hb hlt) (Below.trod Try.laidOut (by kernel_rfl) (of_decide_eq_true (by kernel_rfl)) h2k hb hlt2)
theorem bufferBursts_holds : Rows.BufferBurstsSaid :=
  OpenClaim.holds_of_wide 4 Try.f4 rfl rfl rfl rfl rfl rfl rfl ⟨rfl, rfl, rfl, rfl, rfl⟩ rfl rfl rfl rfl rfl (by kernel_rfl) Try.func4 (by kernel_rfl)
    (of_decide_eq_true (by kernel_rfl)) (by unfold Func.isWrapper; rw [if_neg (of_decide_eq_false (by kernel_rfl))]; exact ⟨rfl, rfl⟩)
    (fun os started H enc _ => bufferBursts_lifted os started H enc)
end Go.Proofs.Ytjhbgciocffihaa
