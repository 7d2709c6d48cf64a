/- Plain words on Put's outcome; the closed case of 'fine'. -/
import Derived.Test.YtjhbgciocffihaaB9
set_option linter.unusedVariables false
set_option linter.unusedSimpArgs false
namespace Go.Proofs.Ytjhbgciocffihaa
theorem Spec.monoT {P : Program} {f : FuncId} {args : Array Value} {e : Env} {w : World} {R : List Part} {Z Z' : Value → List Part → Prop} (h : Spec P f args e w R Z) (hz : ∀ v L w', Z v L → Tot e w' (L ++ R) → ∃ L', Z' v L' ∧ Tot e w' (L' ++ R)) : Spec P f args e w R Z' :=
  Calls.mono h fun en w' ⟨v, L', h1, h2, h3⟩ => by
    obtain ⟨L2, h4, h5⟩ := hz v L' w' h2 h3
    exact ⟨v, L2, h1, h4, h5⟩
theorem BufR.five {b : Nat} {s : BS} {L : List Part} (h : BufR b s L) : ∃ x0 x1 x2 x3 x4, L = [x0, x1, x2, x3, x4] := by
  obtain ⟨vo, xo, L4, rfl, _, br, xr, bs, xs, bt, xt, mr, ms, mt, rfl, _⟩ := h
  exact ⟨_, _, _, _, _, rfl⟩
/-- What Put does. -/
def PutRes (s : BS) (r : Rec) (s' : BS) (d : List Int) (e : Int) : Prop :=
  (¬ r.Ok ∧ e = 2 ∧ s' = s ∧ d = []) ∨ (r.Ok ∧ r.id ∈ ids s.L ∧ e = 12 ∧ s' = s ∧ d = []) ∨ (r.Ok ∧ r.id ∉ ids s.L ∧ s.cap < r.packed ∧ e = 14 ∧ s' = s ∧ d = []) ∨
  (r.Ok ∧ r.id ∉ ids s.L ∧ r.packed ≤ s.cap ∧ e = 0 ∧ Goes (insB s r) s' d ∧ ¬ Full s')
theorem Put5_spec {e : Env} {w : World} {rs : List Part} (b : Nat) (s : BS) (Lb : List Part) (hB : BufR b s Lb) (hI : Inv s) (hlen : s.L.length ≤ 256) (r : Rec) (hT : Tot e w (Lb ++ rs)) :
    Spec Try.prog 15 #[.pointer (some ⟨b, 0, none⟩), encR r] e w rs (fun v L => ∃ s' d er q X Lb', v = .tuple #[q, .int .i64 er] ∧ Sl encI 2 q d X ∧ BufR b s' Lb' ∧ L = X :: Lb' ∧ PutRes s r s' d er) := by
  obtain ⟨vo, xo, L4, rfl, hS, hBM⟩ := hB
  refine (Put_spec b s vo xo L4 hS hBM hI hlen r hT).monoT fun v L w' h hT' => ?_
  by_cases h1 : r.Ok
  · rw [if_neg (not_not_intro h1)] at h
    by_cases h2 : r.id ∈ ids s.L
    · rw [if_pos h2] at h
      exact ⟨_ :: L, ⟨s, [], 12, _, _, L, h.1, sl_nil, h.2, rfl, .inr (.inl ⟨h1, h2, rfl, rfl, rfl⟩)⟩, hT'.emp⟩
    · rw [if_neg h2] at h
      by_cases h3 : s.cap < r.packed
      · rw [if_pos h3] at h
        exact ⟨_ :: L, ⟨s, [], 14, _, _, L, h.1, sl_nil, h.2, rfl, .inr (.inr (.inl ⟨h1, h2, h3, rfl, rfl, rfl⟩))⟩, hT'.emp⟩
      · rw [if_neg h3] at h
        obtain ⟨s', d, q, X, Lb', hv, hD, hB', hL, hG, hF⟩ := h
        exact ⟨L, ⟨s', d, 0, q, X, Lb', hv, hD, hB', hL, .inr (.inr (.inr ⟨h1, h2, by omega, rfl, hG, hF⟩))⟩, hT'⟩
  · rw [if_pos h1] at h
    exact ⟨_ :: L, ⟨s, [], 2, _, _, L, h.1, sl_nil, h.2, rfl, .inl ⟨h1, rfl, rfl, rfl⟩⟩, hT'.emp⟩
theorem PutRes.inv {s s' : BS} {r : Rec} {d : List Int} {e : Int} (h : PutRes s r s' d e) (hI : Inv s) : Inv s' := by
  rcases h with ⟨_, _, rfl, _⟩ | ⟨_, _, _, rfl, _⟩ | ⟨_, _, _, _, rfl, _⟩ | ⟨h1, h2, _, _, hG, _⟩
  · exact hI
  · exact hI
  · exact hI
  · exact hG.inv (hI.ins h1 h2)
theorem PutRes.len {s s' : BS} {r : Rec} {d : List Int} {e : Int} (h : PutRes s r s' d e) (hl : s.L.length ≤ 256) : s'.L.length ≤ 256 := by
  rcases h with ⟨_, _, rfl, _⟩ | ⟨_, _, _, rfl, _⟩ | ⟨_, _, _, _, rfl, _⟩ | ⟨h1, h2, _, _, hG, hF⟩
  · exact hl
  · exact hl
  · exact hl
  · exact Nat.le_of_not_lt fun h => hF (.inr h)
/-! turns by computing -/
instance (s : BS) : Decidable (Full s) := by unfold Full; infer_instance
def turnF (s : BS) : Option (BS × List Int) := if Full s then (if s.L.length ≤ 256 ∧ (squeeze s.L).isSome = true then some (sqz s, []) else s.L.getLast?.map fun h => (drp s h, [h.r.id])) else none
theorem Turn.eq {s s1 : BS} {o : List Int} (h : Turn s s1 o) : turnF s = some (s1, o) := by
  cases h with
  | sq h1 h2 h3 => simp [turnF, h1, h2, h3]
  | dr h h1 h2 h3 =>
    have : ¬ (s.L.length ≤ 256 ∧ (squeeze s.L).isSome = true) := fun hh => by rw [h2 hh.1] at hh; exact absurd hh.2 (by simp)
    simp only [turnF, h1, if_true, if_neg this, h3, Option.map_some]
def runT : Nat → BS → BS × List Int
  | 0, s => (s, [])
  | n + 1, s => match turnF s with
    | none => (s, [])
    | some (s1, o) => ((runT n s1).1, o ++ (runT n s1).2)
theorem runT_none {s : BS} (h : turnF s = none) : ∀ n, runT n s = (s, [])
  | 0 => rfl
  | n + 1 => by simp [runT, h]
theorem runT_some {s s1 : BS} {o : List Int} (h : turnF s = some (s1, o)) (n : Nat) : runT (n + 1) s = ((runT n s1).1, o ++ (runT n s1).2) := by simp [runT, h]
theorem Goes.run {s0 s : BS} {d : List Int} (h : Goes s0 s d) : ∃ k, ∀ m, runT (k + m) s0 = ((runT m s).1, d ++ (runT m s).2) := by
  induction h with
  | start => exact ⟨0, fun m => by simp⟩
  | step h1 h2 ih =>
    obtain ⟨k, hk⟩ := ih
    refine ⟨k + 1, fun m => ?_⟩
    rw [show k + 1 + m = k + (m + 1) by omega, hk, runT_some h2.eq]
    simp
theorem Goes.final {s0 s : BS} {d : List Int} (h : Goes s0 s d) (hF : ¬ Full s) : ∃ k, ∀ m, runT (k + m) s0 = (s, d) := by
  obtain ⟨k, hk⟩ := h.run
  refine ⟨k, fun m => ?_⟩
  rw [hk, runT_none (by simp [turnF, hF])]; simp
/-! the closed case -/
def x1 : Rec := ⟨1, 5, 10, 60, 30⟩
def x2 : Rec := ⟨2, 3, 20, 50, 40⟩
def x3 : Rec := ⟨3, 5, 30, 80, 50⟩
def S0 : BS := ⟨100, 0, 0, []⟩
def S1 : BS := ⟨100, 60, 0, [⟨x1, false, -1⟩]⟩
def S2 : BS := ⟨100, 100, 0, [⟨x1, false, -1⟩, ⟨x2, true, -1⟩]⟩
def S3 : BS := ⟨100, 80, 0, [⟨x3, true, -1⟩, ⟨x1, true, -1⟩]⟩
theorem inv0 (c : Int) (h : 1 ≤ c ∧ c ≤ 16777216) : Inv ⟨c, 0, 0, []⟩ := ⟨by simp [ids], by simp, rfl, h, .nil⟩
theorem fine1 {s' : BS} {d : List Int} {e : Int} (h : PutRes S0 x1 s' d e) : s' = S1 ∧ d = [] ∧ e = 0 := by
  rcases h with ⟨h, _⟩ | ⟨_, h, _⟩ | ⟨_, _, h, _⟩ | ⟨h1, h2, _, he, hG, hF⟩
  · exact absurd (by decide) h
  · exact absurd h (by decide)
  · exact absurd h (by decide)
  · obtain ⟨k, hk⟩ := hG.final hF
    have := hk 0
    rw [runT_none (by rfl)] at this
    simp only [Prod.mk.injEq] at this
    exact ⟨this.1.symm.trans rfl, this.2.symm, he⟩
theorem fine2 {s' : BS} {d : List Int} {e : Int} (h : PutRes S1 x2 s' d e) : s' = S2 ∧ d = [] ∧ e = 0 := by
  rcases h with ⟨h, _⟩ | ⟨_, h, _⟩ | ⟨_, _, h, _⟩ | ⟨h1, h2, _, he, hG, hF⟩
  · exact absurd (by decide) h
  · exact absurd h (by decide)
  · exact absurd h (by decide)
  · obtain ⟨k, hk⟩ := hG.final hF
    have := hk 1
    have e1 : turnF (insB S1 x2) = some (S2, []) := by rfl
    rw [runT_some e1, runT_none (by rfl)] at this
    simp only [Prod.mk.injEq] at this
    exact ⟨this.1.symm.trans rfl, this.2.symm, he⟩
theorem fine3 {s' : BS} {d : List Int} {e : Int} (h : PutRes S2 x3 s' d e) : s' = S3 ∧ d = [2] ∧ e = 0 := by
  rcases h with ⟨h, _⟩ | ⟨_, h, _⟩ | ⟨_, _, h, _⟩ | ⟨h1, h2, _, he, hG, hF⟩
  · exact absurd (by decide) h
  · exact absurd h (by decide)
  · exact absurd h (by decide)
  · obtain ⟨k, hk⟩ := hG.final hF
    have := hk 3
    have e1 : turnF (insB S2 x3) = some (⟨100, 150, 0, [⟨x3, false, -1⟩, ⟨x1, true, -1⟩, ⟨x2, true, -1⟩]⟩, []) := by rfl
    have e2 : turnF ⟨100, 150, 0, [⟨x3, false, -1⟩, ⟨x1, true, -1⟩, ⟨x2, true, -1⟩]⟩ = some (⟨100, 120, 0, [⟨x3, true, -1⟩, ⟨x1, true, -1⟩, ⟨x2, true, -1⟩]⟩, []) := by rfl
    have e3 : turnF ⟨100, 120, 0, [⟨x3, true, -1⟩, ⟨x1, true, -1⟩, ⟨x2, true, -1⟩]⟩ = some (S3, [2]) := by rfl
    rw [show k + 3 = k + 2 + 1 from rfl, runT_some e1, runT_some e2, runT_some e3, runT_none (by rfl)] at this
    simp only [Prod.mk.injEq] at this
    exact ⟨this.1.symm.trans rfl, this.2.symm, he⟩
end Go.Proofs.Ytjhbgciocffihaa
