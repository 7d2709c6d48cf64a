/-
  Own words, part 5: 'for .. := range f': what an iterator's function promises ('Iter'), the statement's rule ('wp_range'), a call of yield; a function that leaves with marks among its deferred calls; results that lie in memory.
-/
import Derived.Test.YtjhbgciocffihaaK4
import Derived.RangeFuncRecord
set_option linter.unusedVariables false
set_option linter.unusedSimpArgs false
namespace Go.Proofs.Ytjhbgciocffihaa

def YieldsTo (P : Program) (lo : Nat) (args : Array Value) (w : World) (Z : Ending → World → Prop) : Prop :=
  ∃ f tmps assign body, (Instr.yield lo args).run P w = .ok (.round lo f tmps assign body) w ∧ RoundIn (Fw none) 0 P lo f tmps assign body w Z

/-- An iterator's function, called with a loop's yield, hands it the values one after another, till all have come or a round has said 'no more'. -/
def Iter (P : Program) (gf : FuncId) (cap : Array Value) (e : Env) (R : List Part) (vals : List (List Value)) : Prop :=
  ∀ (lo : Nat) (w : World) (J : Nat → List Part → Prop) (X : List Part → Prop) (L0 : List Part), J 0 L0 → Tot e w (L0 ++ R) →
    (∀ i u, vals[i]? = some u → ∀ Rx w L, J i L → Tot e w (L ++ (Rx ++ R)) → YieldsTo P lo u.toArray w fun en w' => ∃ b L', en = .returned (.bool b) ∧ ((b = true → J (i + 1) L') ∧ (b = false → X L')) ∧ Tot e w' (L' ++ (Rx ++ R))) →
    Spec P gf (#[.func (.yield lo) #[] #[]] ++ cap) e w R fun _ L' => J vals.length L' ∨ X L'

section
variable {P : Program} {ro : Option Nat} {dr : Bool} {ops : Array Oper} {K : Act → World → Prop} {R L : List Part} {l l' : List (Nat × Value)} {D : List Deferred} {a : Act} {w : World} {N : Nat}
  {t : List (Nat × Bool)} {i d : Nat} {ty : TypeId} {pos : String} {after : Array Edge} {e : Env}
theorem ef_yield {Z : Bool → List Part → Prop} {g : Operand} {lo : Nat} {xs : Array Operand} {tys : Array TypeId} {vs : List Value} (hf : Fr N l D a)
    (ho : ops[i]? = some ⟨some d, .call ⟨.value g, xs, tys⟩, ty, pos, after, none⟩)
    (hg : ev l g = some (.func (.yield lo) #[] #[])) (hx : evs l xs.toList = some vs)
    (hs : YieldsTo P lo vs.toArray w fun en w' => ∃ b L', en = .returned (.bool b) ∧ Z b L' ∧ Tot e w' (L' ++ R)) (hd : Nat.blt d N = true) (hl : er l d = l')
    (k : ∀ a' w' b L', Z b L' → Fr N ((d, .bool b) :: l') D a' → Tot e w' (L' ++ R) → Plan P ro dr ops K (fun w => HasAll w R) t a' w') : Plan P ro dr ops K (fun w => HasAll w R) ((i, false) :: t) a w := by
  have h2 : xs.map a.eval = vs.toArray := by rw [← hf.knows.evs hx]; apply Array.ext'; rw [Array.toList_map]
  obtain ⟨f, tmps, assign, body, hr, hR⟩ := hs
  have hr : (execOp a.eval ⟨some d, .call ⟨.value g, xs, tys⟩, ty, pos, after, none⟩).run P w = .ok (.round lo f tmps assign body) w := by
    simp only [execOp, resolve, hf.ev hg, Deferred.ofValue, invoke, Sem.run_bind, Sem.run_pure, Result.andThen_ok, h2]
    rw [show #[] ++ vs.toArray = vs.toArray by simp]
    exact hr
  have hw : Region.wanted (⟨some d, .call ⟨.value g, xs, tys⟩, ty, pos, after, none⟩ : Oper) (yielded ops a.tmps) = true := wanted_none _ _ rfl
  simp only [Plan, wpOpIn, ho, hw, if_true, Oper.wpIn]
  rw [Oper.semAt_eq _ _ _ (by intro c h; cases h), hr]
  refine ⟨fun _ _ => trivial, ⟨fun h => (by cases h), ?_⟩⟩
  have hR' : RoundIn (Fw ro) (0 - 1) P lo f tmps assign body w _ := ⟨trivial, fun c cs _ => hR.2 c cs (room_Fw none _)⟩
  refine hR'.mono ?_
  rintro en w' ⟨b, L', rfl, hz, hT'⟩
  refine ⟨(.inr hT'.allR), k _ _ b L' hz ?_ hT'⟩
  subst hl
  exact hf.put d (.bool b) (blt_lt hd)
end

section
variable {P : Program} {Q : Exit → Act → World → Prop} {R L : List Part} {l l' : List (Nat × Value)} {a : Act} {w : World} {N : Nat} {e : Env}
/-- How a round of a loop may end. -/
def RQ (e : Env) (R : List Part) (J : List Part → Prop) (X : Code → List Part → Prop) : Exit → Act → World → Prop
  | .normal, _, w => ∃ L', J L' ∧ Tot e w (L' ++ R)
  | .ret, _, w => ∃ L', X .ret L' ∧ Tot e w (L' ++ R)
  | .exit id, _, w => ∃ L', X (.exit id) L' ∧ Tot e w (L' ++ R)
  | _, _, _ => False
theorem rq_normal {J : List Part → Prop} {X : Code → List Part → Prop} (hJ : J L) (hT : Tot e w (L ++ R)) : RQ e R J X .normal a w := ⟨L, hJ, hT⟩
theorem rq_ret {J : List Part → Prop} {X : Code → List Part → Prop} (hJ : X .ret L) (hT : Tot e w (L ++ R)) : RQ e R J X .ret a w := ⟨L, hJ, hT⟩
theorem rq_exit {J : List Part → Prop} {X : Code → List Part → Prop} {id : Nat} (hJ : X (.exit id) L) (hT : Tot e w (L ++ R)) : RQ e R J X (.exit id) a w := ⟨L, hJ, hT⟩
def setps : List (Nat × Value) → List Nat → List Value → List (Nat × Value)
  | l, p :: ps, v :: vs => setps ((p, v) :: er l p) ps vs
  | l, _, _ => l
theorem Fr.setps {D : List Deferred} : ∀ (ps : List Nat) (vs : List Value) (l : List (Nat × Value)) (a : Act), Fr N l D a → (∀ p ∈ ps, p < N) → Fr N (setps l ps vs) D { a with tmps := (ps.zip vs).foldl (fun tmps (p : Nat × Value) => tmps.setIfInBounds p.1 p.2) a.tmps }
  | [], vs, l, a, h, _ => by simpa [Ytjhbgciocffihaa.setps] using h
  | p :: ps, [], l, a, h, _ => by simpa [Ytjhbgciocffihaa.setps] using h
  | p :: ps, v :: vs, l, a, h, hp => by
    simp only [Ytjhbgciocffihaa.setps, List.zip_cons_cons, List.foldl_cons]
    have h2 := h.put p v (hp p (List.mem_cons_self ..))
    exact Fr.setps ps vs _ _ h2 (fun q hq => hp q (List.mem_cons_of_mem _ hq))

/-- **THE STATEMENT 'for .. := range g'.** -/
theorem wp_range {g : Operand} {ps : Array Tmp} {assign body : Code} {gf : Nat} {cap : Array Value} {vals : List (List Value)} (hf : Fr N l [] a) (hT : Tot e w (L ++ R))
    (hg : ev l g = some (.func (.func gf) #[] cap)) (hc : canEnter P gf = true) (hI : Iter P gf cap e R vals) (hps : ∀ u ∈ vals, u.length = ps.size) (hpN : ps.toList.all (fun p => Nat.blt p N) = true)
    (J : Nat → List Part → Prop) (X : Code → List Part → Prop) (l1 : Nat → List (Nat × Value)) (hJ : J 0 L)
    (hassign : ∀ lo i u, vals[i]? = some u → ∀ w a L R, Fr N (setps l ps.toList u) [] a → Tot e w (L ++ R) → assign.wpIn (Fw (some lo)) 0 P (QN fun a w => Fr N (l1 i) [] a ∧ Tot e w (L ++ R)) a w)
    (hbody : ∀ lo i u, vals[i]? = some u → ∀ Rx w a L, J i L → Fr N (l1 i) [] a → Tot e w (L ++ (Rx ++ R)) → body.wpIn (Fw (some lo)) 0 P (RQ e (Rx ++ R) (J (i + 1)) X) a w)
    (hdone : ∀ dD w a L, J vals.length L → Fr N l [⟨.collected dD, #[]⟩] a → Tot e w ((pt dD (.deferred (some [])) :: L) ++ R) → Q .normal a w)
    (hstop : ∀ dD c w a L, X c L → Fr N l [⟨.collected dD, #[]⟩] a → Tot e w ((pt dD (.deferred (some [])) :: L) ++ R) → c.wpIn (Fw none) 0 P Q a w) :
    (Code.rangeFunc g ps assign body).wpIn (Fw none) 0 P Q a w := by
  refine wpIn_rangeFunc fun fn _ => ?_
  let rec0 : LoopState → Option Code → Loop := fun st pe => { state := st, pending := pe, fn, tmps := a.tmps, params := ps, assign, body, defers := w.heap.size }
  have hT1 : Tot e ((w.alloc (.deferred (some []))).alloc (.loop (rec0 .ready none))) (pt (w.heap.size + 1) (.loop (rec0 .ready none)) :: pt w.heap.size (.deferred (some [])) :: (L ++ R)) := by
    have h1 := hT.alloc (.deferred (some []))
    have h2 := h1.alloc (.loop (rec0 .ready none))
    rw [World.size_alloc] at h2
    exact h2
  have he := run_enterLoop_outer (P := P) (w := w) fn a.tmps ps assign body
  generalize hW1 : (w.alloc (.deferred (some []))).alloc (.loop (rec0 .ready none)) = W1 at hT1
  rw [show (w.alloc (.deferred (some []))).alloc (.loop { state := .ready, pending := none, fn, tmps := a.tmps, params := ps, assign, body, defers := w.heap.size }) = W1 from hW1] at he
  refine ⟨w.heap.size + 1, [⟨.collected w.heap.size, #[]⟩], W1, { target := .fn (.func gf) cap, args := #[.func (.yield (w.heap.size + 1)) #[] #[]] }, W1, gf, #[.func (.yield (w.heap.size + 1)) #[] #[]] ++ cap, W1, he, ?_, fun _ _ => trivial, ?_, fun h => (by cases h), ?_⟩
  · simp only [resolve, hf.ev hg]
    simp [Deferred.ofValue, Sem.run_pure, Sem.run_bind, Act.eval]
  · exact run_callFunc hc _ _
  · have hcall := hI (w.heap.size + 1) _ (fun i L' => ∃ L2, L' = pt (w.heap.size + 1) (.loop (rec0 .ready none)) :: pt w.heap.size (.deferred (some [])) :: L2 ∧ J i L2)
      (fun L' => ∃ L2 c, L' = pt (w.heap.size + 1) (.loop (rec0 .done (some c))) :: pt w.heap.size (.deferred (some [])) :: L2 ∧ X c L2) _ ⟨L, rfl, hJ⟩ hT1 ?_
    · refine callsIn_Fw (Calls.mono hcall ?_)
      rintro en w3 ⟨v, L', rfl, hL, hT3⟩
      have hfr : ∀ t, Fr N l [t] { a with defers := [t] ++ a.defers } := fun t => ⟨hf.size, by simp [hf.dfr], hf.at_⟩
      rcases hL with ⟨L2, rfl, hJ2⟩ | ⟨L2, c, rfl, hX⟩
      · have hl := hT3.head _ _ (pt_self _ _)
        refine ⟨none, _, run_endLoop hl (by simp [rec0]), ?_⟩
        exact hdone _ _ _ L2 hJ2 (hfr _) (hT3.put _).tail
      · have hl := hT3.head _ _ (pt_self _ _)
        refine ⟨some c, _, run_endLoop hl (by simp [rec0]), ?_⟩
        exact hstop _ c _ _ L2 hX (hfr _) (hT3.put _).tail
    · rintro i u hu Rx w2 L' ⟨L2, rfl, hJ2⟩ hT2
      have hl := hT2.head _ _ (pt_self _ _)
      have hsz : u.toArray.size = ps.size := by simpa using hps u (List.mem_of_getElem? hu)
      refine ⟨fn, _, assign, body, run_yield hl (by simpa [rec0] using hsz), roundIn_of_wpIn trivial ?_⟩
      have hfr : Fr N (setps l ps.toList u) [] { tmps := ((ps.zip u.toArray).foldl (fun tmps (t, a) => tmps.setIfInBounds t a) a.tmps), defers := [] } := by
        have := Fr.setps ps.toList u l a hf (fun p hp => blt_lt (by have := List.all_eq_true.1 hpN p hp; simpa using this))
        have he : ps.zip u.toArray = (ps.toList.zip u).toArray := by
          apply Array.ext'; simp
        rw [he, ← Array.foldl_toList]
        exact ⟨this.size, rfl, this.at_⟩
      have hT2' : Tot e w2 ([] ++ (L2 ++ ((pt (w.heap.size + 1) (.loop (rec0 .ready none)) :: pt w.heap.size (.deferred (some [])) :: Rx) ++ R))) := by
        refine hT2.perm ?_
        simp only [List.cons_append, List.nil_append, List.append_assoc]
        have p1 : (pt w.heap.size (.deferred (some [])) :: (L2 ++ (Rx ++ R))).Perm (L2 ++ (pt w.heap.size (.deferred (some [])) :: (Rx ++ R))) := List.perm_middle.symm
        exact (List.Perm.cons _ p1).trans List.perm_middle.symm
      refine wpIn_mono (hassign _ i u hu _ _ [] _ hfr hT2') ?_
      rintro ex a3 w3 hq
      cases ex with
      | normal =>
        obtain ⟨hf3, hT3⟩ := hq
        have hT3' : Tot e w3 (pt (w.heap.size + 1) (.loop (rec0 .ready none)) :: pt w.heap.size (.deferred (some [])) :: (L2 ++ (Rx ++ R))) := by
          refine hT3.perm ?_
          simp only [List.cons_append, List.nil_append, List.append_assoc]
          have p1 : (L2 ++ (pt w.heap.size (.deferred (some [])) :: (Rx ++ R))).Perm (pt w.heap.size (.deferred (some [])) :: (L2 ++ (Rx ++ R))) := List.perm_middle
          exact List.perm_middle.trans (List.Perm.cons _ p1)
        have hl3 := hT3'.head _ _ (pt_self _ _)
        refine ⟨_, run_beginRound hl3 rfl, ?_⟩
        have hT4 := hT3'.put (.loop (rec0 .busy none))
        have hT5 : Tot e (w3.putObj (w.heap.size + 1) (.loop (rec0 .busy none))) (L2 ++ ((pt (w.heap.size + 1) (.loop (rec0 .busy none)) :: pt w.heap.size (.deferred (some [])) :: Rx) ++ R)) := by
          refine Tot.perm (show Tot e _ _ from hT4) ?_
          simp only [List.cons_append]
          have p1 : (pt w.heap.size (.deferred (some [])) :: (L2 ++ (Rx ++ R))).Perm (L2 ++ (pt w.heap.size (.deferred (some [])) :: (Rx ++ R))) := List.perm_middle.symm
          exact (List.Perm.cons _ p1).trans List.perm_middle.symm
        refine wpIn_mono (hbody _ i u hu _ _ _ L2 hJ2 hf3 hT5) ?_
        have back : ∀ {w4 : World} {L4 : List Part}, Tot e w4 (L4 ++ ((pt (w.heap.size + 1) (.loop (rec0 .busy none)) :: pt w.heap.size (.deferred (some [])) :: Rx) ++ R)) →
            Tot e w4 (pt (w.heap.size + 1) (.loop (rec0 .busy none)) :: pt w.heap.size (.deferred (some [])) :: (L4 ++ (Rx ++ R))) := by
          intro w4 L4 h4
          refine h4.perm ?_
          simp only [List.cons_append]
          have p1 : (L4 ++ (pt w.heap.size (.deferred (some [])) :: (Rx ++ R))).Perm (pt w.heap.size (.deferred (some [])) :: (L4 ++ (Rx ++ R))) := List.perm_middle
          exact List.perm_middle.trans (List.Perm.cons _ p1)
        rintro ex a4 w4 hq4
        cases ex with
        | normal =>
          obtain ⟨L4, hJ4, hT6⟩ := hq4
          have hT7 := back hT6
          have hl7 := hT7.head _ _ (pt_self _ _)
          exact ⟨_, _, run_endRound none hl7, true, _, rfl, ⟨fun _ => ⟨L4, rfl, hJ4⟩, fun h => (by cases h)⟩, hT7.put _⟩
        | ret =>
          obtain ⟨L4, hX4, hT6⟩ := hq4
          have hT7 := back hT6
          have hl7 := hT7.head _ _ (pt_self _ _)
          exact ⟨_, _, run_endRound (some .ret) hl7, false, _, rfl, ⟨fun h => (by cases h), fun _ => ⟨L4, .ret, rfl, hX4⟩⟩, hT7.put _⟩
        | exit id =>
          obtain ⟨L4, hX4, hT6⟩ := hq4
          have hT7 := back hT6
          have hl7 := hT7.head _ _ (pt_self _ _)
          exact ⟨_, _, run_endRound (some (.exit id)) hl7, false, _, rfl, ⟨fun h => (by cases h), fun _ => ⟨L4, .exit id, rfl, hX4⟩⟩, hT7.put _⟩
        | goto t => exact hq4.elim
        | panic ch => exact hq4.elim
        | outgrown => exact hq4.elim
      | exit id => exact hq.elim
      | goto t => exact hq.elim
      | ret => exact hq.elim
      | panic ch => exact hq.elim
      | outgrown => exact hq.elim

/-! a function that leaves with marks -/
def marks : List Nat → List Deferred
  | [] => []
  | b :: bs => ⟨.collected b, #[]⟩ :: marks bs
def markParts : List Nat → List Part
  | [] => []
  | b :: bs => pt b (.deferred (some [])) :: markParts bs
theorem leaves_marks {fn : Func} {tmps : Array Value} {Z : Value → List Part → Prop} : ∀ (ds : List Nat) (w : World), Tot e w (markParts ds ++ L) →
    (∀ w', Tot e w' L → ∃ v L', (results fn tmps).run P w' = .ok v w' ∧ Z v L' ∧ Tot e w' (L' ++ R)) →
    LeavesInM (Fw none) 0 P fn tmps (fun en w' => ∃ v L', en = .returned v ∧ Z v L' ∧ Tot e w' (L' ++ R)) (marks ds) .returning w
  | [], w, hT, h => by
    obtain ⟨v, L', hr, hz, hT'⟩ := h w hT
    exact ⟨v, hr, v, L', rfl, hz, hT'⟩
  | b :: bs, w, hT, h => by
    have hb := hT.head b _ (pt_self b _)
    exact ⟨by simp, .inl ⟨b, _, rfl, run_takeDeferred hb, leaves_marks bs _ (hT.put _).tail h⟩⟩
/-- The results, in slots or in memory. -/
def ResV (R : List Part) (l : List (Nat × Value)) (P : Program) : List ResultVar → List Value → Prop
  | [], [] => True
  | .tmp t :: rs, v :: vs => lk l t = some v ∧ ResV R l P rs vs
  | .cell t ty :: rs, v :: vs => (∃ b o, lk l t = some (.pointer (some ⟨b, o, none⟩)) ∧ ∀ w, HasAll w R → (loadVar ty ⟨b, o, none⟩).run P w = .ok v w) ∧ ResV R l P rs vs
  | _, _ => False
theorem run_resv (hk : Knows l a) {g : ResultVar → Sem Value} (hg : ∀ t, g (.tmp t) = pure (a.tmps.getD t undef)) (hg2 : ∀ t ty, g (.cell t ty) = do loadVar ty (← asAddr (a.tmps.getD t undef))) (hw : HasAll w R) :
    ∀ {rs : List ResultVar} {vs : List Value}, ResV R l P rs vs → (rs.mapM g).run P w = .ok vs w
  | [], [], h => by simp [Sem.run_pure]
  | .tmp t :: rs, v :: vs, h => by
    have h3 := hk _ (lk_mem h.1)
    simp only at h3
    rw [List.mapM_cons, Sem.run_bind, hg]
    simp only [Sem.run_pure, Result.andThen_ok]
    rw [Sem.run_bind, run_resv hk hg hg2 hw h.2]
    simp [Sem.run_pure, h3]
  | .cell t ty :: rs, v :: vs, h => by
    obtain ⟨⟨b, o, h1, h2⟩, h4⟩ := h
    have h3 := hk _ (lk_mem h1)
    simp only at h3
    rw [List.mapM_cons, Sem.run_bind, hg2]
    have : a.tmps.getD t undef = .pointer (some ⟨b, o, none⟩) := by simp [h3]
    rw [this]
    simp only [asAddr, Sem.run_bind, Sem.run_pure, Result.andThen_ok, h2 w hw]
    rw [run_resv hk hg hg2 hw h4]
    simp [Sem.run_pure]
  | [], _ :: _, h => h.elim
  | .tmp _ :: _, [], h => h.elim
  | .cell _ _ :: _, [], h => h.elim
theorem run_results2 {fn : Func} {rs : List ResultVar} (hr : fn.results = rs.toArray) {vs : List Value} (hk : Knows l a) (hw : HasAll w R) (h : ResV R l P rs vs) : (results fn a.tmps).run P w = .ok (retv vs) w := by
  unfold results
  rw [hr, List.mapM_toArray]
  simp only [Sem.run_bind, map_eq_pure_bind]
  rw [run_resv hk (fun t => rfl) (fun t ty => rfl) hw h]
  simp only [Result.andThen_ok, Sem.run_pure]
  match vs with
  | [] => simp [retv]
  | [v] => simp [retv]
  | v :: u :: vs => simp [retv]
/-- A function's end: marks ds among its deferred calls; G is let go, L handed back. -/
theorem body_retG {fn : Func} {Z : Value → List Part → Prop} {rs : List ResultVar} {vs : List Value} (G : List Part) (ds : List Nat) (hf : Fr N l (marks ds) a) (hT : Tot e w (markParts ds ++ (G ++ (L ++ R)))) (hr : fn.results = rs.toArray)
    (h : ResV (G ++ (L ++ R)) l P rs vs) (hz : Z (retv vs) L) : Body P fn e R Z .ret a w := by
  show LeavesInM _ _ _ _ _ _ _ _ _
  rw [hf.dfr]
  exact leaves_marks ds w hT fun w' hT' => ⟨_, L, run_results2 hr hf.knows hT'.all h, hz, hT'.right⟩
end
end Go.Proofs.Ytjhbgciocffihaa
