/- Own words, part 12: ranges over maps; iterators whose values hang on the tape; the statement over them. -/
import Derived.Test.YtjhbgciocffihaaK11
import Derived.Maps.RangeRun
set_option linter.unusedVariables false
set_option linter.unusedSimpArgs false
namespace Go.Proofs.Ytjhbgciocffihaa
/-! ### 1. Iterators with a state -/
def IterG (P : Program) (gf : FuncId) (cap : Array Value) (e : Env) (R : List Part) {σ : Type} (s0 : σ) (step : σ → List Value → σ → Prop) (fin : σ → Prop) : Prop :=
  ∀ (lo : Nat) (w : World) (J : σ → List Part → Prop) (X : List Part → Prop) (L0 : List Part), J s0 L0 → Tot e w (L0 ++ R) →
    (∀ s u s', step s u s' → ∀ Rx w L, J s L → Tot e w (L ++ (Rx ++ R)) → YieldsTo P lo u.toArray w fun en w' => ∃ b L', en = .returned (.bool b) ∧ ((b = true → J s' L') ∧ (b = false → X L')) ∧ Tot e w' (L' ++ (Rx ++ R))) →
    Spec P gf (#[.func (.yield lo) #[] #[]] ++ cap) e w R fun _ L' => (∃ s, fin s ∧ J s L') ∨ X L'
section
variable {P : Program} {Q : Exit → Act → World → Prop} {R L : List Part} {l l' : List (Nat × Value)} {a : Act} {w : World} {N : Nat} {e : Env}
/-- **THE STATEMENT 'for .. := range g', the values hanging on the tape.** -/
theorem wp_rangeG {σ : Type} {s0 : σ} {step : σ → List Value → σ → Prop} {fin : σ → Prop} {g : Operand} {ps : Array Tmp} {assign body : Code} {gf : Nat} {cap : Array Value} (hf : Fr N l [] a) (hT : Tot e w (L ++ R))
    (hg : ev l g = some (.func (.func gf) #[] cap)) (hc : canEnter P gf = true) (hI : IterG P gf cap e R s0 step fin) (hps : ∀ s u s', step s u s' → u.length = ps.size) (hpN : ps.toList.all (fun p => Nat.blt p N) = true)
    (J : σ → List Part → Prop) (X : Code → List Part → Prop) (l1 : List Value → List (Nat × Value)) (hJ : J s0 L)
    (hassign : ∀ lo s u s', step s u s' → ∀ w a L R, Fr N (setps l ps.toList u) [] a → Tot e w (L ++ R) → assign.wpIn (Fw (some lo)) 0 P (QN fun a w => Fr N (l1 u) [] a ∧ Tot e w (L ++ R)) a w)
    (hbody : ∀ lo s u s', step s u s' → ∀ Rx w a L, J s L → Fr N (l1 u) [] a → Tot e w (L ++ (Rx ++ R)) → body.wpIn (Fw (some lo)) 0 P (RQ e (Rx ++ R) (J s') X) a w)
    (hdone : ∀ dD s w a L, fin s → J s L → Fr N l [⟨.collected dD, #[]⟩] a → Tot e w ((pt dD (.deferred (some [])) :: L) ++ R) → Q .normal a w)
    (hstop : ∀ dD c w a L, X c L → Fr N l [⟨.collected dD, #[]⟩] a → Tot e w ((pt dD (.deferred (some [])) :: L) ++ R) → c.wpIn (Fw none) 0 P Q a w) :
    (Code.rangeFunc g ps assign body).wpIn (Fw none) 0 P Q a w := by
  refine wpIn_rangeFunc fun fn _ => ?_
  let rec0 : LoopState → Option Code → Loop := fun st pe => { state := st, pending := pe, fn, tmps := a.tmps, params := ps, assign, body, defers := w.heap.size }
  have hT1 : Tot e ((w.alloc (.deferred (some []))).alloc (.loop (rec0 .ready none))) (pt (w.heap.size + 1) (.loop (rec0 .ready none)) :: pt w.heap.size (.deferred (some [])) :: (L ++ R)) := by
    have h1 := hT.alloc (.deferred (some []))
    have h2 := h1.alloc (.loop (rec0 .ready none))
    rw [World.size_alloc] at h2
    exact h2
  have he := run_enterLoop_outer (P := P) (w := w) fn a.tmps ps assign body
  generalize hW1 : (w.alloc (.deferred (some []))).alloc (.loop (rec0 .ready none)) = W1 at hT1
  rw [show (w.alloc (.deferred (some []))).alloc (.loop { state := .ready, pending := none, fn, tmps := a.tmps, params := ps, assign, body, defers := w.heap.size }) = W1 from hW1] at he
  refine ⟨w.heap.size + 1, [⟨.collected w.heap.size, #[]⟩], W1, { target := .fn (.func gf) cap, args := #[.func (.yield (w.heap.size + 1)) #[] #[]] }, W1, gf, #[.func (.yield (w.heap.size + 1)) #[] #[]] ++ cap, W1, he, ?_, fun _ _ => trivial, ?_, fun h => (by cases h), ?_⟩
  · simp only [resolve, hf.ev hg]
    simp [Deferred.ofValue, Sem.run_pure, Sem.run_bind, Act.eval]
  · exact run_callFunc hc _ _
  · have hcall := hI (w.heap.size + 1) _ (fun s L' => ∃ L2, L' = pt (w.heap.size + 1) (.loop (rec0 .ready none)) :: pt w.heap.size (.deferred (some [])) :: L2 ∧ J s L2)
      (fun L' => ∃ L2 c, L' = pt (w.heap.size + 1) (.loop (rec0 .done (some c))) :: pt w.heap.size (.deferred (some [])) :: L2 ∧ X c L2) _ ⟨L, rfl, hJ⟩ hT1 ?_
    · refine callsIn_Fw (Calls.mono hcall ?_)
      rintro en w3 ⟨v, L', rfl, hL, hT3⟩
      have hfr : ∀ t, Fr N l [t] { a with defers := [t] ++ a.defers } := fun t => ⟨hf.size, by simp [hf.dfr], hf.at_⟩
      rcases hL with ⟨s, hfin, L2, rfl, hJ2⟩ | ⟨L2, c, rfl, hX⟩
      · have hl := hT3.head _ _ (pt_self _ _)
        refine ⟨none, _, run_endLoop hl (by simp [rec0]), ?_⟩
        exact hdone _ s _ _ L2 hfin hJ2 (hfr _) (hT3.put _).tail
      · have hl := hT3.head _ _ (pt_self _ _)
        refine ⟨some c, _, run_endLoop hl (by simp [rec0]), ?_⟩
        exact hstop _ c _ _ L2 hX (hfr _) (hT3.put _).tail
    · rintro s u s' hu Rx w2 L' ⟨L2, rfl, hJ2⟩ hT2
      have hl := hT2.head _ _ (pt_self _ _)
      have hsz : u.toArray.size = ps.size := by simpa using hps s u s' hu
      refine ⟨fn, _, assign, body, run_yield hl (by simpa [rec0] using hsz), roundIn_of_wpIn trivial ?_⟩
      have hfr : Fr N (setps l ps.toList u) [] { tmps := ((ps.zip u.toArray).foldl (fun tmps (t, a) => tmps.setIfInBounds t a) a.tmps), defers := [] } := by
        have := Fr.setps ps.toList u l a hf (fun p hp => blt_lt (by have := List.all_eq_true.1 hpN p hp; simpa using this))
        have he : ps.zip u.toArray = (ps.toList.zip u).toArray := by
          apply Array.ext'; simp
        rw [he, ← Array.foldl_toList]
        exact ⟨this.size, rfl, this.at_⟩
      have hT2' : Tot e w2 ([] ++ (L2 ++ ((pt (w.heap.size + 1) (.loop (rec0 .ready none)) :: pt w.heap.size (.deferred (some [])) :: Rx) ++ R))) := by
        refine hT2.perm ?_
        simp only [List.cons_append, List.nil_append, List.append_assoc]
        have p1 : (pt w.heap.size (.deferred (some [])) :: (L2 ++ (Rx ++ R))).Perm (L2 ++ (pt w.heap.size (.deferred (some [])) :: (Rx ++ R))) := List.perm_middle.symm
        exact (List.Perm.cons _ p1).trans List.perm_middle.symm
      refine wpIn_mono (hassign _ s u s' hu _ _ [] _ hfr hT2') ?_
      rintro ex a3 w3 hq
      cases ex with
      | normal =>
        obtain ⟨hf3, hT3⟩ := hq
        have hT3' : Tot e w3 (pt (w.heap.size + 1) (.loop (rec0 .ready none)) :: pt w.heap.size (.deferred (some [])) :: (L2 ++ (Rx ++ R))) := by
          refine hT3.perm ?_
          simp only [List.cons_append, List.nil_append, List.append_assoc]
          have p1 : (L2 ++ (pt w.heap.size (.deferred (some [])) :: (Rx ++ R))).Perm (pt w.heap.size (.deferred (some [])) :: (L2 ++ (Rx ++ R))) := List.perm_middle
          exact List.perm_middle.trans (List.Perm.cons _ p1)
        have hl3 := hT3'.head _ _ (pt_self _ _)
        refine ⟨_, run_beginRound hl3 rfl, ?_⟩
        have hT4 := hT3'.put (.loop (rec0 .busy none))
        have hT5 : Tot e (w3.putObj (w.heap.size + 1) (.loop (rec0 .busy none))) (L2 ++ ((pt (w.heap.size + 1) (.loop (rec0 .busy none)) :: pt w.heap.size (.deferred (some [])) :: Rx) ++ R)) := by
          refine Tot.perm (show Tot e _ _ from hT4) ?_
          simp only [List.cons_append]
          have p1 : (pt w.heap.size (.deferred (some [])) :: (L2 ++ (Rx ++ R))).Perm (L2 ++ (pt w.heap.size (.deferred (some [])) :: (Rx ++ R))) := List.perm_middle.symm
          exact (List.Perm.cons _ p1).trans List.perm_middle.symm
        refine wpIn_mono (hbody _ s u s' hu _ _ _ L2 hJ2 hf3 hT5) ?_
        have back : ∀ {w4 : World} {L4 : List Part}, Tot e w4 (L4 ++ ((pt (w.heap.size + 1) (.loop (rec0 .busy none)) :: pt w.heap.size (.deferred (some [])) :: Rx) ++ R)) →
            Tot e w4 (pt (w.heap.size + 1) (.loop (rec0 .busy none)) :: pt w.heap.size (.deferred (some [])) :: (L4 ++ (Rx ++ R))) := by
          intro w4 L4 h4
          refine h4.perm ?_
          simp only [List.cons_append]
          have p1 : (L4 ++ (pt w.heap.size (.deferred (some [])) :: (Rx ++ R))).Perm (pt w.heap.size (.deferred (some [])) :: (L4 ++ (Rx ++ R))) := List.perm_middle
          exact List.perm_middle.trans (List.Perm.cons _ p1)
        rintro ex a4 w4 hq4
        cases ex with
        | normal =>
          obtain ⟨L4, hJ4, hT6⟩ := hq4
          have hT7 := back hT6
          have hl7 := hT7.head _ _ (pt_self _ _)
          exact ⟨_, _, run_endRound none hl7, true, _, rfl, ⟨fun _ => ⟨L4, rfl, hJ4⟩, fun h => (by cases h)⟩, hT7.put _⟩
        | ret =>
          obtain ⟨L4, hX4, hT6⟩ := hq4
          have hT7 := back hT6
          have hl7 := hT7.head _ _ (pt_self _ _)
          exact ⟨_, _, run_endRound (some .ret) hl7, false, _, rfl, ⟨fun h => (by cases h), fun _ => ⟨L4, .ret, rfl, hX4⟩⟩, hT7.put _⟩
        | exit id =>
          obtain ⟨L4, hX4, hT6⟩ := hq4
          have hT7 := back hT6
          have hl7 := hT7.head _ _ (pt_self _ _)
          exact ⟨_, _, run_endRound (some (.exit id)) hl7, false, _, rfl, ⟨fun h => (by cases h), fun _ => ⟨L4, .exit id, rfl, hX4⟩⟩, hT7.put _⟩
        | goto t => exact hq4.elim
        | panic ch => exact hq4.elim
        | outgrown => exact hq4.elim
      | exit id => exact hq.elim
      | goto t => exact hq.elim
      | ret => exact hq.elim
      | panic ch => exact hq.elim
      | outgrown => exact hq.elim

end
/-! ### 2. Ranges over maps -/
section
variable {P : Program} {R L : List Part} {l : List (Nat × Value)} {ty : TypeId} {e : Env} {κ α : Type} {encK : κ → Value} {encV : α → Value}
/-- What an iterator has seen: the places vis of the entries es. -/
structure Seen (es : Array MapEntry) (seen : Array Nat) (vis : List Nat) : Prop where
  list : seen.toList = vis.map fun i => (es.getD i default).born
  lt : ∀ i ∈ vis, i < es.size
  nd : vis.Nodup
def itObj (b clk : Nat) (seen : Array Nat) : Obj := .mapIter (some b) clk seen clk
theorem seen_nil (es : Array MapEntry) : Seen es #[] [] := ⟨rfl, by simp, by simp⟩
theorem ef_range {t kt et : TypeId} {x : Operand} {b clk : Nat} {es : Array MapEntry} (hx : ev l x = some (.map (some b))) (hu : P.underlying t = some (.map kt et)) (hM : pt b (.map es clk) ∈ L ++ R) :
    Ef P e l (.range t x) ty L R (fun v L' => ∃ it, v = .pointer (some ⟨it, 0, none⟩) ∧ L' = pt it (itObj b clk #[]) :: L) := by
  intro a w ha hT dst pos after guard
  have hobj : w.heap[b]? = some (.map es clk) := hT.all _ hM b _ (pt_self b _)
  refine ⟨_, w.alloc (itObj b clk #[]), pt w.heap.size (itObj b clk #[]) :: L, ?_, ⟨w.heap.size, rfl, rfl⟩, hT.alloc _⟩
  simp only [execOp, ha.ev hx, Instr.range, Sem.run_bind, run_underlying' hu, Result.andThen_ok, run_getObj_map hobj, Sem.run_pure, newObj]
  rfl
theorem seen_mem {es : Array MapEntry} {seen : Array Nat} {vis : List Nat} (hS : Seen es seen vis) (hb : (es.toList.map (·.born)).Nodup) {i : Nat} (hi : i < es.size) : seen.contains (es.getD i default).born = true ↔ i ∈ vis := by
  rw [Array.contains_eq_mem, decide_eq_true_iff, ← Array.mem_toList_iff, hS.list, List.mem_map]
  constructor
  · rintro ⟨j, hj, he⟩
    have hjl := hS.lt j hj
    have h1 := List.pairwise_iff_getElem.1 hb
    have hg : ∀ k (hk : k < es.size), (es.toList.map (·.born))[k]'(by simpa using hk) = (es.getD k default).born := fun k hk => by simp [hk]
    rcases Nat.lt_trichotomy i j with h | h | h
    · exact absurd ((hg i hi).trans (he.symm.trans (hg j hjl).symm)) (h1 i j _ _ h)
    · rw [h]; exact hj
    · exact absurd ((hg j hjl).trans (he.trans (hg i hi).symm)) (h1 j i _ _ h)
  · exact fun h => ⟨i, h, rfl⟩
/-- A step: all has been seen, or one more entry comes. -/
theorem ef_next {x : Operand} {it b clk : Nat} {es : Array MapEntry} {seen : Array Nat} {m : List (κ × α)} {vis : List Nat} (hx : ev l x = some (.pointer (some ⟨it, 0, none⟩))) (hM : pt b (.map es clk) ∈ L ++ R) (hE : Entries encK encV es clk m) (hS : Seen es seen vis) :
    Ef P e l (.next x false) ty (pt it (itObj b clk seen) :: L) R (fun v L' => (v = .tuple #[.bool false] ∧ L' = pt it (itObj b clk seen) :: L ∧ ∀ i, i < m.length → i ∈ vis) ∨
      ∃ i, ∃ hi : i < m.length, i ∉ vis ∧ v = .tuple #[.bool true, encK m[i].1, encV m[i].2] ∧ ∃ seen', Seen es seen' (vis ++ [i]) ∧ L' = pt it (itObj b clk seen') :: L) := by
  intro a w ha hT dst pos after guard
  have hmap : w.heap[b]? = some (.map es clk) := hT.all _ (List.mem_cons_of_mem _ hM) b _ (pt_self b _)
  have hit : w.heap[it]? = some (itObj b clk seen) := hT.head it _ (pt_self it _)
  have hsz := hE.size
  have hg : ∀ i (hi : i < es.size), es.toList[i]? = some (es.getD i default) := fun i hi => by simp [hi]
  rcases run_next_at (P := P) w ty it b clk clk seen es clk hit hmap hE.clock (Nat.le_refl _) with ⟨h0, hr⟩ | ⟨e0, he, w1, hw1, hr⟩
  · refine ⟨_, w, _, ?_, .inl ⟨rfl, rfl, fun i hi => ?_⟩, hT⟩
    · simp only [execOp, ha.ev hx]
      rw [Sem.run_bind, hr]; rfl
    · rw [← seen_mem hS hE.born (by omega)]
      cases hc : seen.contains (es.getD i default).born with
      | true => rfl
      | false =>
        exfalso
        have hmem : es.getD i default ∈ (leftOf es seen).toList := by
          unfold leftOf
          rw [Array.mem_toList_iff, Array.mem_filter]
          exact ⟨by have := List.mem_of_getElem? (hg i (by omega)); simpa using this, by simpa using hc⟩
        have h1 : (leftOf es seen).toList = [] := List.eq_nil_of_length_eq_zero (by simpa using h0)
        rw [h1] at hmem; cases hmem
  · have hm2 := he
    unfold leftOf at hm2
    rw [Array.mem_toList_iff, Array.mem_filter] at hm2
    obtain ⟨i, hi, hei⟩ := List.getElem_of_mem (Array.mem_toList_iff.2 hm2.1)
    have hil : i < es.size := by simpa using hi
    have hge : es.getD i default = e0 := by simp at hei; simp [hil, hei]
    have hni : i ∉ vis := fun h => by
      have := (seen_mem hS hE.born hil).2 h
      rw [hge] at this
      have h2 := hm2.2
      rw [this] at h2; cases h2
    have him : i < m.length := by omega
    have hkv : (e0.key, e0.val) = (encK m[i].1, encV m[i].2) := by
      have h1 := congrArg (fun l => l[i]?) hE.list
      simp only [List.getElem?_map, hg i hil, List.getElem?_eq_getElem him, Option.map_some, hge] at h1
      exact Option.some.inj h1
    simp only [Prod.mk.injEq] at hkv
    have hit1 : Tot e w1 ((pt it (itObj b clk seen) :: L) ++ R) := by
      rcases hw1 with rfl | rfl
      · exact hT
      · exact hT.drew
    refine ⟨_, _, _, ?_, .inr ⟨i, him, hni, rfl, _, ?_, rfl⟩, hit1.put (itObj b clk (seen.push e0.born))⟩
    · simp only [execOp, ha.ev hx]
      rw [Sem.run_bind, hr, ← hkv.1, ← hkv.2]
      rfl
    · refine ⟨by rw [Array.toList_push, hS.list, List.map_append, List.map_singleton, hge], fun j hj => ?_, ?_⟩
      · rcases List.mem_append.1 hj with hj | hj
        · exact hS.lt j hj
        · simp at hj; omega
      · rw [List.nodup_append]
        exact ⟨hS.nd, by simp, fun a ha b hb hab => by simp at hb; subst hb; subst hab; exact hni ha⟩
theorem yl_entry {x : Operand} {it b clk : Nat} {es : Array MapEntry} {seen : Array Nat} {m : List (κ × α)} {vis : List Nat} {i : Nat} (hx : ev l x = some (.pointer (some ⟨it, 0, none⟩))) (hI : pt it (itObj b clk seen) ∈ R) (hM : pt b (.map es clk) ∈ R) (hE : Entries encK encV es clk m) (hS : Seen es seen (vis ++ [i])) (hi : i < m.length) :
    Yl P R l (.entry x) ty (.tuple #[encK m[i].1, encV m[i].2]) := by
  intro a w ha hw dst pos after guard
  have hmap : w.heap[b]? = some (.map es clk) := hw _ hM b _ (pt_self b _)
  have hit : w.heap[it]? = some (itObj b clk seen) := hw _ hI it _ (pt_self it _)
  have hil : i < es.size := by have := hE.size; omega
  have hg : es.toList[i]? = some (es.getD i default) := by simp [hil]
  have hseen : seen = ((vis.map fun i => (es.getD i default).born).toArray).push (es.getD i default).born := by
    apply Array.ext'; rw [hS.list]; simp
  have hkv : ((es.getD i default).key, (es.getD i default).val) = (encK m[i].1, encV m[i].2) := by
    have h1 := congrArg (fun l => l[i]?) hE.list
    simp only [List.getElem?_map, hg, List.getElem?_eq_getElem hi, Option.map_some] at h1
    exact Option.some.inj h1
  simp only [Prod.mk.injEq] at hkv
  rw [hseen] at hit
  have hr := run_entry_at (P := P) w it b clk _ es clk (es.getD i default) hit hmap (List.mem_of_getElem? hg) hE.born
  simp only [execOp, ha.ev hx]
  rw [Sem.run_bind, hr, hkv.1, hkv.2]
  rfl
theorem vis_len {n : Nat} {vis : List Nat} (hn : vis.Nodup) (hl : ∀ i ∈ vis, i < n) : vis.length ≤ n := by
  have hp : vis.Perm ((List.range n).filter fun i => decide (i ∈ vis)) := by
    rw [List.perm_ext_iff_of_nodup hn (List.nodup_range.filter _)]
    intro i; simp only [List.mem_filter, List.mem_range, decide_eq_true_eq]
    exact ⟨fun h => ⟨hl i h, h⟩, fun h => h.2⟩
  have := hp.length_eq
  have h2 := List.length_filter_le (fun i => decide (i ∈ vis)) (List.range n)
  rw [List.length_range] at h2; omega
/-- When all has been seen: the values came in some order. -/
theorem vis_all {m : List (κ × α)} {vis : List Nat} (hn : vis.Nodup) (hl : ∀ i ∈ vis, i < m.length) (h : ∀ i, i < m.length → i ∈ vis) : vis.Perm (List.range m.length) := by
  rw [List.perm_ext_iff_of_nodup hn List.nodup_range]
  intro i; rw [List.mem_range]; exact ⟨hl i, h i⟩
end
end Go.Proofs.Ytjhbgciocffihaa
