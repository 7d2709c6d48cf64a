/- Own words, part 11: a region whose effects may come in several orders ('PT': a tree of plans); a piece of code that is cut off from what follows. -/
import Derived.Test.YtjhbgciocffihaaK10
set_option linter.unusedVariables false
set_option linter.unusedSimpArgs false
namespace Go.Proofs.Ytjhbgciocffihaa
/-- A tree of plans: 'or': several effects are ready. -/
inductive PT
  | fin (pl : List (Nat × Bool))
  | op (i : Nat) (b : Bool) (t : PT)
  | or (s t : PT)
def PT.depth : PT → Nat
  | .fin pl => pl.length
  | .op _ _ t => t.depth + 1
  | .or s t => max s.depth t.depth
def PT.heads : PT → List Nat
  | .fin ((i, _) :: _) => [i]
  | .fin [] => []
  | .op i _ _ => [i]
  | .or s t => s.heads ++ t.heads
mutual
def goT (ops : Array Oper) (listed : Array Bool) : PT → Bool
  | .fin pl => planGo ops listed pl
  | .op i true t => (Region.ready .any ops listed).contains i && Region.free .any ops listed i && goT ops (listed.setIfInBounds i true) t
  | .op i false t => (Region.ready .any ops listed == [i]) && goT ops (listed.setIfInBounds i true) t
  | .or s t => !(Region.ready .any ops listed).isEmpty && (Region.ready .any ops listed).all (fun j => (s.heads ++ t.heads).contains j) && goH ops listed s && goH ops listed t
def goH (ops : Array Oper) (listed : Array Bool) : PT → Bool
  | .fin ((i, false) :: pl) => (Region.ready .any ops listed).contains i && planGo ops (listed.setIfInBounds i true) pl
  | .op i false t => (Region.ready .any ops listed).contains i && goT ops (listed.setIfInBounds i true) t
  | .or s t => goH ops listed s && goH ops listed t
  | _ => false
end
section
variable {P : Program} {ro : Option Nat} {ops : Array Oper} {K : Act → World → Prop} {S : World → Prop}
theorem wpOp_QN {K' : Act → World → Prop} {i : Nat} {J : Act → World → Prop} {a : Act} {w : World} (h : wpOpIn (Fw ro) 0 P ops (QN K) i J a w) : wpOpIn (Fw ro) 0 P ops (QN K') i J a w := by
  unfold wpOpIn at h ⊢
  cases ho : ops[i]? with
  | none => rw [ho] at h; exact h
  | some o =>
    rw [ho] at h
    simp only at h ⊢
    split
    · rename_i hw
      rw [if_pos hw] at h
      unfold Oper.wpIn at *
      refine ⟨h.1, ?_⟩
      have h := h.2
      generalize (o.semAt (Fw ro).round a.eval).run P w = r at *
      cases r with
      | ok x w' =>
        cases x <;> simp only [Oper.uponIn] at h ⊢ <;>
          first
            | exact h
            | exact ⟨h.1, CallsIn.mono h.2 (fun e w'' he => by cases e <;> first | exact he | exact he.elim | (obtain ⟨a0, w0, hq⟩ := he; exact hq.elim))⟩
            | exact ⟨h.1, RoundIn.mono h.2 (fun e w'' he => by cases e <;> first | exact he | exact he.elim | (obtain ⟨a0, w0, hq⟩ := he; exact hq.elim))⟩
      | halt x w' => cases x <;> simp only [Oper.uponIn] at h ⊢ <;> exact h.elim
    · rename_i hw
      rw [if_neg hw] at h
      exact h
def PlanT (P : Program) (ro : Option Nat) (ops : Array Oper) (K : Act → World → Prop) (S : World → Prop) : PT → Act → World → Prop
  | .fin pl => Plan P ro true ops K S pl
  | .op i true t => fun a w => ∃ o v, ops[i]? = some o ∧ YIf P ops S o v a ∧ PlanT P ro ops K S t (a.put o.dst v) w
  | .op i false t => wpOpIn (Fw ro) 0 P ops (QN K) i (fun a' w' => S w' ∧ PlanT P ro ops K S t a' w')
  | .or s t => fun a w => PlanT P ro ops K S s a w ∧ PlanT P ro ops K S t a w
theorem plan_go {t : PT} {a : Act} {w : World} (hS : S w) (h : PlanT P ro ops K S t a w) : Plan P ro true ops (fun a w => S w ∧ PlanT P ro ops K S t a w) S [] a w := ⟨hS, h⟩
theorem planT_op {i : Nat} {b : Bool} {t : PT} {a : Act} {w : World} (h : Plan P ro true ops (fun a w => S w ∧ PlanT P ro ops K S t a w) S [(i, b)] a w) : PlanT P ro ops K S (.op i b t) a w := by
  cases b with
  | true => obtain ⟨o, v, h1, h2, h3⟩ := h; exact ⟨o, v, h1, h2, h3.2⟩
  | false =>
    have h : wpOpIn (Fw ro) 0 P ops (QN fun a w => S w ∧ PlanT P ro ops K S t a w) i (fun a' w' => ((([] : List (Nat × Bool)) = [] ∧ (!true || lastOf .any ops i) = true) ∨ S w') ∧ (S w' ∧ PlanT P ro ops K S t a' w')) a w := h
    exact wpOp_QN (wpOpIn_mono (fun a' w' h' => h'.2) h)
theorem planT_fin {pl : List (Nat × Bool)} {a : Act} {w : World} (h : Plan P ro true ops K S pl a w) : PlanT P ro ops K S (.fin pl) a w := h
theorem planT_or {s t : PT} {a : Act} {w : World} (h1 : PlanT P ro ops K S s a w) (h2 : PlanT P ro ops K S t a w) : PlanT P ro ops K S (.or s t) a w := ⟨h1, h2⟩
mutual
theorem planT_anyH (hall : allPlain ops = true) : ∀ (T : PT) (listed : Array Bool) (a : Act) (w : World), Down .any ops listed → goT ops listed T = true → S w → PlanT P ro ops K S T a w → ∀ fuel, T.depth ≤ fuel → AnyH P ro .any ops K S fuel listed a w
  | .fin pl, listed, a, w, hD, hg, hS, h, fuel, hf => plan_anyH hall pl listed a w hD hg hS h fuel hf
  | .op i true t, listed, a, w, hD, hg, hS, h, fuel, hf => by
    obtain ⟨o, v, ho, hy, h⟩ := h
    simp only [goT, Bool.and_eq_true] at hg
    obtain ⟨⟨hr, hfr⟩, hg⟩ := hg
    cases fuel with
    | zero => simp [PT.depth] at hf
    | succ fuel =>
      have hr' : i ∈ Region.ready .any ops listed := by simpa using hr
      exact anyH_first ho hall fuel listed a w hD (Region.free_spec ho hfr) hr' hy hS (planT_anyH hall t _ _ _ (hD.step hr') hg hS h fuel (by simpa [PT.depth] using hf))
  | .op i false t, listed, a, w, hD, hg, hS, h, fuel, hf => by
    simp only [goT, Bool.and_eq_true, beq_iff_eq] at hg
    obtain ⟨hr, hg⟩ := hg
    cases fuel with
    | zero => simp [PT.depth] at hf
    | succ fuel =>
      refine ⟨fun h0 => (by rw [hr] at h0; cases h0), fun j hj => ?_⟩
      have hj' := hj
      rw [hr] at hj
      obtain rfl : j = i := by simpa using hj
      have h : wpOpIn (Fw ro) 0 P ops (QN K) j (fun a' w' => S w' ∧ PlanT P ro ops K S t a' w') a w := h
      refine wpOpIn_mono (fun a' w' h' => ?_) h
      exact ⟨.inr h'.1, planT_anyH hall t _ _ _ (hD.step hj') hg h'.1 h'.2 fuel (by simpa [PT.depth] using hf)⟩
  | .or s t, listed, a, w, hD, hg, hS, h, fuel, hf => by
    simp only [goT, Bool.and_eq_true, Bool.not_eq_true', List.isEmpty_eq_false_iff] at hg
    obtain ⟨⟨⟨hne, hin⟩, hgs⟩, hgt⟩ := hg
    simp only [PT.depth] at hf
    cases fuel with
    | zero =>
      exfalso
      have h0 : s.depth = 0 := by omega
      cases s with
      | fin pl => cases pl <;> simp [PT.depth, goH] at h0 hgs
      | op i b t => simp [PT.depth] at h0
      | or s1 s2 =>
        have : ∀ (s : PT), s.depth = 0 → goH ops listed s = true → False := by
          intro s
          induction s with
          | fin pl => cases pl <;> simp [PT.depth, goH]
          | op i b t => simp [PT.depth]
          | or s1 s2 ih1 ih2 => intro hd hh; simp only [PT.depth] at hd; simp only [goH, Bool.and_eq_true] at hh; exact ih1 (by omega) hh.1
        exact this _ h0 hgs
    | succ fuel =>
      refine ⟨fun h0 => absurd h0 hne, fun j hj => ?_⟩
      have hj2 := List.all_eq_true.1 hin j hj
      simp only [List.contains_eq_mem, List.mem_append, decide_eq_true_eq] at hj2
      rcases hj2 with hj2 | hj2
      · exact planT_heads hall s listed a w hD hgs hS h.1 fuel (by omega) j hj2
      · exact planT_heads hall t listed a w hD hgt hS h.2 fuel (by omega) j hj2
theorem planT_heads (hall : allPlain ops = true) : ∀ (T : PT) (listed : Array Bool) (a : Act) (w : World), Down .any ops listed → goH ops listed T = true → S w → PlanT P ro ops K S T a w → ∀ fuel, T.depth ≤ fuel + 1 → ∀ j ∈ T.heads,
    wpOpIn (Fw ro) 0 P ops (QN K) j (fun a' w' => (lastOf .any ops j = true ∨ S w') ∧ AnyH P ro .any ops K S fuel (listed.setIfInBounds j true) a' w') a w
  | .fin [], listed, a, w, hD, hg, hS, h, fuel, hf, j, hj => by simp [goH] at hg
  | .fin ((i, true) :: pl), listed, a, w, hD, hg, hS, h, fuel, hf, j, hj => by simp [goH] at hg
  | .fin ((i, false) :: pl), listed, a, w, hD, hg, hS, h, fuel, hf, j, hj => by
    simp only [goH, Bool.and_eq_true] at hg
    obtain ⟨hr, hg⟩ := hg
    have hr' : i ∈ Region.ready .any ops listed := by simpa using hr
    obtain rfl : j = i := by simpa [PT.heads] using hj
    have h : wpOpIn (Fw ro) 0 P ops (QN K) j (fun a' w' => ((pl = [] ∧ (!true || lastOf .any ops j) = true) ∨ S w') ∧ Plan P ro true ops K S pl a' w') a w := h
    refine wpOpIn_mono (fun a' w' h' => ?_) h
    rcases h'.1 with ⟨ht, hl⟩ | hS'
    · subst ht
      have hl' : lastOf .any ops j = true := by simpa using hl
      refine ⟨.inl hl', ?_⟩
      have hr2 : Region.ready .any ops (listed.setIfInBounds j true) = [] := by simpa [planGo] using hg
      cases fuel with
      | zero => exact ⟨hr2, h'.2⟩
      | succ fuel => exact ⟨fun _ => h'.2, by rw [hr2]; simp⟩
    · exact ⟨.inr hS', plan_anyH hall pl _ _ _ (hD.step hr') hg hS' h'.2 fuel (by simpa [PT.depth] using hf)⟩
  | .op i true t, listed, a, w, hD, hg, hS, h, fuel, hf, j, hj => by simp [goH] at hg
  | .op i false t, listed, a, w, hD, hg, hS, h, fuel, hf, j, hj => by
    simp only [goH, Bool.and_eq_true] at hg
    obtain ⟨hr, hg⟩ := hg
    have hr' : i ∈ Region.ready .any ops listed := by simpa using hr
    obtain rfl : j = i := by simpa [PT.heads] using hj
    have h : wpOpIn (Fw ro) 0 P ops (QN K) j (fun a' w' => S w' ∧ PlanT P ro ops K S t a' w') a w := h
    refine wpOpIn_mono (fun a' w' h' => ?_) h
    exact ⟨.inr h'.1, planT_anyH hall t _ _ _ (hD.step hr') hg h'.1 h'.2 fuel (by simpa [PT.depth] using hf)⟩
  | .or s t, listed, a, w, hD, hg, hS, h, fuel, hf, j, hj => by
    simp only [goH, Bool.and_eq_true] at hg
    simp only [PT.depth] at hf
    rcases List.mem_append.1 (show j ∈ s.heads ++ t.heads from hj) with hj | hj
    · exact planT_heads hall s listed a w hD hg.1 hS h.1 fuel (by omega) j hj
    · exact planT_heads hall t listed a w hD hg.2 hS h.2 fuel (by omega) j hj
end
def ptOK (ops : Array Oper) (T : PT) : Bool := allPlain ops && (goT ops (Array.replicate ops.size false) T && Nat.ble T.depth ops.size)
end
/-- **A REGION, BY A TREE OF PLANS.** -/
theorem wp_regT {P : Program} {ro : Option Nat} {id : Nat} {ops : Array Oper} {Q : Exit → Act → World → Prop} {a : Act} {w : World} {e : Env} (L R : List Part) (T : PT)
    (hm : P.follows .mixedOrders = true) (hpl : ptOK ops T = true) (hT : Tot e w (L ++ R))
    (h : ∀ w', Tot e w' (L ++ R) → PlanT P ro ops (Q .normal) (fun w => HasAll w R) T a w') : (Code.region id ops true).wpIn (Fw ro) 0 P Q a w := by
  simp only [ptOK, Bool.and_eq_true] at hpl
  obtain ⟨hall, hpl⟩ := hpl
  refine wpIn_mono (Q := QN (Q .normal)) ?_ (fun ex a' w' hq => by cases ex <;> simp only [QN] at hq; exact hq)
  refine wpIn_region_any hm (any_of_held _ _ _ _ (planT_anyH hall T _ a _ (fun j o ho hj => ?_) hpl.1 ?_ (h _ ?_) _ (Nat.le_of_ble_eq_true hpl.2)))
  · have hj' : j < ops.size := (Array.getElem?_eq_some_iff.1 ho).1
    simp [hj'] at hj
  · exact hT.drew.allR
  · exact hT.drew

/-! ### A cut -/
def CutQ {σ : Type} (e : Env) (N : Nat) (D : List Deferred) (lv : σ → List (Nat × Value)) (l0 : List (Nat × Value)) (Z : σ → List Part → Prop) (R : List Part) (Q : Exit → Act → World → Prop) : Exit → Act → World → Prop
  | .normal, a, w => ∃ s L, Fr N (lv s ++ l0) D a ∧ Z s L ∧ Tot e w (L ++ R)
  | ex, a, w => Q ex a w
section
variable {P : Program} {ro : Option Nat} {Q : Exit → Act → World → Prop} {R L : List Part} {l : List (Nat × Value)} {D : List Deferred} {a : Act} {w : World} {N : Nat} {e : Env} {σ : Type}
/-- What c does is summed up; the code behind is proved once. -/
theorem wp_cut {c : Code} {l0 : List (Nat × Value)} {L0 : List Part} (hf0 : Fr N l0 D a) (hT0 : Tot e w (L0 ++ R)) (lv : σ → List (Nat × Value)) (Z : σ → List Part → Prop)
    (h : c.wpIn (Fw ro) 0 P (CutQ e N D lv l0 Z R Q) a w) (k : ∀ s a w L, Fr N (lv s ++ l0) D a → Z s L → Tot e w (L ++ R) → Q .normal a w) : c.wpIn (Fw ro) 0 P Q a w :=
  wpIn_mono h fun ex a w hq => by
    cases ex with
    | normal => obtain ⟨s, L, h1, h2, h3⟩ := hq; exact k s a w L h1 h2 h3
    | exit id => exact hq
    | goto l => exact hq
    | ret => exact hq
    | panic c => exact hq
    | outgrown => exact hq
theorem cut_exit {lv : σ → List (Nat × Value)} {l0 : List (Nat × Value)} {Z : σ → List Part → Prop} {id : Nat} (h : Q (.exit id) a w) : CutQ e N D lv l0 Z R Q (.exit id) a w := h
theorem cut_ret {lv : σ → List (Nat × Value)} {l0 : List (Nat × Value)} {Z : σ → List Part → Prop} (h : Q .ret a w) : CutQ e N D lv l0 Z R Q .ret a w := h
end
section
variable {P : Program} {ro : Option Nat} {dr : Bool} {ops : Array Oper} {K : Act → World → Prop} {R : List Part} {l l' : List (Nat × Value)} {D : List Deferred} {a : Act} {w : World} {N : Nat}
  {t : List (Nat × Bool)} {i d : Nat} {op : Op} {ty : TypeId} {pos : String} {after : Array Edge} {v : Value}
theorem wanted_undef {o : Oper} {g : Nat} {want : Bool} {tg : Nat} {og : Oper} (hf : Fr N l D a) (h : o.guard = some (g, want)) (hg : ops[g]? = some og) (hd : og.dst = some tg) (hc : lk l tg = some undef) :
    Region.wanted o (yielded ops a.tmps) = false := by
  have := hf.get hc
  simp [Region.wanted, h, yielded, hg, hd, this, undef]
/-- An operation whose guard itself was not wanted. -/
theorem rdU {g tg : Nat} {want : Bool} {og : Oper} (hf : Fr N l D a) (ho : ops[i]? = some ⟨some d, op, ty, pos, after, some (g, want)⟩) (hg : ops[g]? = some og) (hgd : og.dst = some tg) (hc : lk l tg = some undef)
    (hd : Nat.blt d N = true) (hl : (d, undef) :: er l d = l')
    (k : ∀ a', Fr N l' D a' → Plan P ro dr ops K (fun w => HasAll w R) t a' w) : Plan P ro dr ops K (fun w => HasAll w R) ((i, true) :: t) a w := by
  refine ⟨_, undef, ho, .inr ⟨wanted_undef hf rfl hg hgd hc, rfl⟩, k _ ?_⟩
  have hd' : d < N := blt_lt hd
  subst hl
  exact hf.put d undef hd'
theorem efU {g tg : Nat} {want : Bool} {og : Oper} {dst : Option Nat} (hf : Fr N l D a) (ho : ops[i]? = some ⟨dst, op, ty, pos, after, some (g, want)⟩) (hg : ops[g]? = some og) (hgd : og.dst = some tg) (hc : lk l tg = some undef)
    (hR : HasAll w R) (hd : ∀ d, dst = some d → Nat.blt d N = true) (hl : (match dst with | some d => (d, undef) :: er l d | none => l) = l')
    (k : ∀ a', Fr N l' D a' → Plan P ro dr ops K (fun w => HasAll w R) t a' w) : Plan P ro dr ops K (fun w => HasAll w R) ((i, false) :: t) a w := by
  have hw : Region.wanted (⟨dst, op, ty, pos, after, some (g, want)⟩ : Oper) (yielded ops a.tmps) = false := wanted_undef hf rfl hg hgd hc
  simp only [Plan, wpOpIn, ho, hw]
  refine ⟨fun _ _ => trivial, .inr hR, k _ ?_⟩
  subst hl
  cases dst with
  | none => exact hf
  | some d => exact hf.put d undef (blt_lt (hd d rfl))
end
theorem Sl.one {α : Type} {E : Enc α} {T : TypeId} {v : Value} {xs : List α} {X : Part} (h : Sl E T v xs X) : v.oneCell' = true := by
  rcases h with ⟨rfl, _, _⟩ | ⟨_, _, _, rfl, _⟩ <;> rfl
theorem Sl.sub {α : Type} {E : Enc α} {T : TypeId} {A : Option Addr} {c : Nat} {xs : List α} {X : Part} {R : List Part} (h : Sl E T (.slice A xs.length c) xs X) (hX : X ∈ R) {lo hi : Nat} (hl : lo ≤ hi) (hh : hi ≤ xs.length) :
    Els E R (.slice (if c = lo then A else A.map (·.add (lo * E.sz))) (hi - lo) (c - lo)) ((xs.drop lo).take (hi - lo)) := by
  obtain ⟨A', c', he, hc⟩ := h.shape
  simp only [Value.slice.injEq] at he
  obtain ⟨rfl, _, rfl⟩ := he
  exact (h.els hX).sub hl hh hc
end Go.Proofs.Ytjhbgciocffihaa
