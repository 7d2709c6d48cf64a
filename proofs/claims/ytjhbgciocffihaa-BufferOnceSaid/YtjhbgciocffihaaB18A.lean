-- written by gen.py out of walks texts of my own
import Derived.Test.YtjhbgciocffihaaB17
set_option linter.unusedVariables false
set_option linter.unusedSimpArgs false
set_option maxHeartbeats 4000000
namespace Go.Proofs.Ytjhbgciocffihaa
theorem Burst5_spec {e : Env} {w : World} {rs : List Part} (b : Nat) (s : BS) (Lb : List Part) (hB : BufR b s Lb) (hI : Inv s) (hlen : s.L.length ≤ 256) (htime : 0 ≤ s.time) (n t wt : Int) (hT : Tot e w (Lb ++ rs)) :
    Spec Try.prog 21 #[.pointer (some ⟨b, 0, none⟩), .int .i64 n, .int .i64 t, .int .i64 wt] e w rs (fun v L => ∃ s' d er q X Lb', v = .tuple #[q, .int .i64 er] ∧ Sl encI 2 q d X ∧ BufR b s' Lb' ∧ L = X :: Lb' ∧ ((Oor s n t wt ∧ er = 3 ∧ s' = s ∧ d = []) ∨ (¬ Oor s n t wt ∧ er = 0 ∧ s' = bst s n t wt ∧ d = (bf n t wt s.L).2))) := by
  obtain ⟨vo, xo, L4, rfl, hS, hBM⟩ := hB
  refine (Burst_spec b s vo xo L4 hS hBM hI hlen htime n t wt hT).monoT fun v L w' h hT' => ?_
  by_cases h1 : Oor s n t wt
  · rw [if_pos h1] at h
    exact ⟨_ :: L, ⟨s, [], 3, _, _, L, h.1, sl_nil, h.2, rfl, .inl ⟨h1, rfl, rfl, rfl⟩⟩, hT'.emp⟩
  · rw [if_neg h1] at h
    obtain ⟨q, X, Lb', hv, hD, hB', hL⟩ := h
    exact ⟨L, ⟨_, _, 0, q, X, Lb', hv, hD, hB', hL, .inr ⟨h1, rfl, rfl, rfl⟩⟩, hT'⟩
theorem PutRes.time {s s' : BS} {r : Rec} {d : List Int} {e : Int} (h : PutRes s r s' d e) : s'.time = s.time := by
  rcases h with ⟨_, _, rfl, _⟩ | ⟨_, _, _, rfl, _⟩ | ⟨_, _, _, _, rfl, _⟩ | ⟨h1, h2, _, _, hG, _⟩
  · rfl
  · rfl
  · rfl
  · exact hG.capt.2
theorem PutRes.len1 {s s' : BS} {r : Rec} {d : List Int} {e : Int} (h : PutRes s r s' d e) (hI : Inv s) : s'.L.length ≤ s.L.length + 1 := by
  rcases h with ⟨_, _, rfl, _⟩ | ⟨_, _, _, rfl, _⟩ | ⟨_, _, _, _, rfl, _⟩ | ⟨h1, h2, _, _, hG, _⟩
  · omega
  · omega
  · omega
  · obtain ⟨ds, _, hr⟩ := hG.recs (hI.ins h1 h2)
    have hl := congrArg List.length hr
    have h0 : (insB s r).L.length = s.L.length + 1 := (ins_perm s.L r).length_eq
    simp only [List.length_append, List.length_map, List.length_reverse, h0] at hl
    omega
structure Tri where
  a : Int
  b : Int
  c : Int
def Tri.cells (p : Tri) : List Value := [.int .u8 p.a, .int .u8 p.b, .int .u8 p.c]
def encTri : Enc Tri := ⟨Tri.cells, 3, fun _ => rfl, fun a u h => by simp [Tri.cells] at h; rcases h with rfl | rfl | rfl <;> rfl, by decide⟩
def Tri.Ok (p : Tri) : Prop := (0 ≤ p.a ∧ p.a ≤ 255) ∧ (0 ≤ p.b ∧ p.b ≤ 255) ∧ (0 ≤ p.c ∧ p.c ≤ 255)
theorem bst_get {s : BS} {n t wt : Int} (hn : (ids s.L).Nodup) {k : Nat} (hk : k < s.L.length) (hk2 : k < (bst s n t wt).L.length) : (bst s n t wt).L[k] = if s.L[k].r.id ∈ (bf n t wt s.L).2 then { s.L[k] with sent := t } else s.L[k] := by
  show (setSent _ _ _)[k] = _
  simp only [setSent, List.getElem_map]; rfl
end Go.Proofs.Ytjhbgciocffihaa
