/- Own words, part 13: the library's proved contracts of the sorts (slices.Sort at int64, slices.SortFunc), said in own words. -/
import Derived.Test.YtjhbgciocffihaaK12
import Derived.Shelf.SlSortCmp.WholeK
import Derived.Shelf.SlSortCmp.NoneTotal
import Derived.Shelf.SortM.Plain
import Derived.Shelf.SortM.SortNone
set_option linter.unusedVariables false
set_option linter.unusedSimpArgs false
namespace Go.Proofs.Ytjhbgciocffihaa
open Go.Sort
section
variable {e : Env} {w : World} {L R : List Part} {b : Nat} {cs : Array Value} {T : TypeId}
theorem Tot.grow (h : Tot e w L) (os : Array Obj) : Tot e (Go.Sort.grow w os) L :=
  ⟨h.os, h.tape, h.output, h.dr, fun x hx k o hk => by
    have h1 := h.has x hx k o hk
    have hlt := (Array.getElem?_eq_some_iff.1 h1).1
    show (w.heap ++ os)[k]? = some o
    rw [Array.getElem?_append_left hlt]; exact h1, h.apart⟩
theorem tot_putRow (hT : Tot e w (pt b (.cells cs T) :: L)) (F : Array Value) (n : Nat) (os : Array Obj) : Tot e (Go.Sort.grow (putRow id (Go.Sort.ahead w n) b 0 F) os) (pt b (.cells (putCells id 0 F cs) T) :: L) := by
  refine Tot.grow ?_ os
  have hT1 : Tot e (Go.Sort.ahead w n) (pt b (.cells cs T) :: L) := ⟨hT.os, hT.tape, hT.output, Nat.le_trans hT.dr (Nat.le_add_right _ _), hT.has, hT.apart⟩
  have hb := hT1.head b _ (pt_self b _)
  have h2 := hT1.put (.cells (putCells id 0 F cs) T)
  have he : putRow id (Go.Sort.ahead w n) b 0 F = { (Go.Sort.ahead w n) with heap := (Go.Sort.ahead w n).heap.setIfInBounds b (.cells (putCells id 0 F cs) T) } := by
    unfold putRow mapBlock
    congr 1
    apply Array.ext_getElem?
    intro k
    rw [Array.getElem?_modify, Array.getElem?_setIfInBounds]
    by_cases hk : b = k
    · subst hk
      have hlt := (Array.getElem?_eq_some_iff.1 hb).1
      simp only [if_true, hb, Option.map_some, onCells]
      rw [if_pos hlt]
    · simp [hk]
  rw [he]; exact h2
theorem take_putCells {F : Array Value} (h : F.size ≤ cs.size) : (putCells id 0 F cs).toList.take F.size = F.toList := by
  apply List.ext_getElem?
  intro i
  by_cases hi : i < F.size
  · rw [List.getElem?_take, if_pos hi]
    have h1 : i < (putCells id 0 F cs).size := by simp [putCells]; omega
    rw [Array.getElem?_toList, Array.getElem?_eq_getElem h1, Array.getElem?_toList, Array.getElem?_eq_getElem hi]
    simp [putCells, hi]
  · rw [List.getElem?_eq_none (by rw [List.length_take, show (putCells id 0 F cs).toList.length = (putCells id 0 F cs).size from rfl]; simp [putCells]; omega), List.getElem?_eq_none (by rw [show F.toList.length = F.size from rfl]; omega)]
theorem holds_of_tot (hT : Tot e w (pt b (.cells cs T) :: L)) {F : Array Value} (h : cs.toList.take F.size = F.toList) (hs : F.size ≤ cs.size) : Holds id w b 0 F := by
  intro j hj
  have hb := hT.head b _ (pt_self b _)
  have h1 := congrArg (fun l => l[j]?) h
  simp only [List.getElem?_take, if_pos hj, Array.getElem?_toList] at h1
  constructor
  · simp [World.cell?, hb, h1, hj]
  · simp [World.frozen?, hb]
end
/-! ### a callee that writes nothing old, as the library's words say it -/
def whole (W : World) : Part := fun k => W.heap[k]?
def envAt (W : World) : Env := ⟨W.os, W.tape, W.output, W.drawn⟩
theorem tot_whole (W : World) : Tot (envAt W) W [whole W] := ⟨rfl, rfl, rfl, Nat.le_refl _, fun x hx k o hk => by rw [List.mem_singleton.1 hx] at hk; exact hk, List.pairwise_singleton _ _⟩
theorem grown_of_tot {W W' : World} {L : List Part} (h : Tot (envAt W) W' (L ++ [whole W])) : ∃ q os, W' = Go.Sort.grow (W.drewN q) os := by
  have hall : ∀ k o, W.heap[k]? = some o → W'.heap[k]? = some o := fun k o hk => h.has (whole W) (by simp) k o hk
  have hsz : W.heap.size ≤ W'.heap.size := by
    rcases Nat.eq_zero_or_pos W.heap.size with h0 | h0
    · omega
    · have := hall (W.heap.size - 1) _ (Array.getElem?_eq_getElem (by omega))
      have := (Array.getElem?_eq_some_iff.1 this).1
      omega
  have hdr : W.drawn ≤ W'.drawn := h.dr
  refine ⟨W'.drawn - W.drawn, W'.heap.extract W.heap.size W'.heap.size, ?_⟩
  obtain ⟨heap', tape', drawn', os', output'⟩ := W'
  have e1 : os' = W.os := h.os
  have e2 : tape' = W.tape := h.tape
  have e3 : output' = W.output := h.output
  subst e1; subst e2; subst e3
  unfold Go.Sort.grow World.drewN
  simp only at hall hsz hdr ⊢
  have h1 : W.drawn + (drawn' - W.drawn) = drawn' := by omega
  have h2 : W.heap ++ heap'.extract W.heap.size heap'.size = heap' := by
    apply Array.ext_getElem?
    intro k
    by_cases hk : k < W.heap.size
    · rw [Array.getElem?_append_left hk, Array.getElem?_eq_getElem hk, hall k _ (Array.getElem?_eq_getElem hk)]
    · rw [Array.getElem?_append_right (by omega), Array.getElem?_extract]
      by_cases hk2 : k < heap'.size
      · rw [if_pos (by omega), show W.heap.size + (k - W.heap.size) = k by omega]
      · rw [if_neg (by omega), Array.getElem?_eq_none (by omega)]
  rw [h1, h2]
section
variable {P : Program} {α : Type} [Inhabited α]
theorem flatK_all {E : Enc α} (d : Array α) : (flatK E.cells E.sz d).toList = E.all d.toList := by
  have hpos := E.pos
  apply List.ext_getElem?
  intro t
  by_cases ht : t < d.size * E.sz
  · have h1 := get_flatK E.cells E.sz d t ht
    have hq : t / E.sz < d.size := Nat.div_lt_of_lt_mul (by rw [Nat.mul_comm]; exact ht)
    have hr := Nat.mod_lt t hpos
    have h2 : d.toList[t / E.sz]? = some d[t / E.sz]! := by rw [Array.getElem?_toList, Array.getElem?_eq_getElem hq, getElem!_pos d _ hq]
    have h3 := E.all_get h2 hr
    rw [show t / E.sz * E.sz + t % E.sz = t by rw [Nat.mul_comm]; exact Nat.div_add_mod t E.sz] at h3
    rw [h3]
    have hl : t % E.sz < (E.cells d[t / E.sz]!).length := by rw [E.len]; exact hr
    rw [List.getElem?_eq_getElem hl, Array.getElem?_toList, Array.getElem?_eq_getElem (by rw [size_flatK]; exact ht)]
    rw [getElem!_pos _ _ (by rw [size_flatK]; exact ht), getElem!_pos (E.cells d[t / E.sz]!) _ hl] at h1
    rw [h1]
  · rw [List.getElem?_eq_none (by rw [show (flatK E.cells E.sz d).toList.length = (flatK E.cells E.sz d).size from rfl, size_flatK]; omega), List.getElem?_eq_none (by rw [E.all_length]; show d.toList.length * _ ≤ _; rw [show d.toList.length = d.size from rfl]; omega)]
/-- slices.SortFunc, in own words: any sorted order of the elements. -/
theorem sortFunc_spec {ρ : Shelf.Ren} (Ly : SlLaysF0.n6 P ρ) {E : Enc α} {T : TypeId} (aE : ∀ w, (isAgg (ρ.t 24)).run P w = .ok true w) (zE : ∀ w, (Go.sizeOf (ρ.t 24)).run P w = .ok E.sz w) (cf : α → α → Int) (hO : SWO (ltOf cf)) (g : Nat) (cb : Array Value)
    (hcan : ∀ args w, (callFunc g args).run P w = .ok (.enter g args) w) {e : Env} {w : World} {R : List Part} {v : Value} {xs : List α} {X : Part} (hS : Sl E T v xs X) (hlen : xs.length ≤ 1000000)
    (hcb : ∀ (e : Env) (w : World) (rs : List Part) (x y : α), Tot e w rs → Spec P g (#[.agg (E.cells x).toArray, .agg (E.cells y).toArray] ++ cb) e w rs (fun v L => v = .int .i64 (cf x y) ∧ L = []))
    (hT : Tot e w ([X] ++ R)) : Spec P (ρ.f 6) #[v, .func (.func g) #[] cb] e w R (fun v' L => v' = .tuple #[] ∧ ∃ ys X', ys.Perm xs ∧ ys.Pairwise (fun x y => ¬ cf y x < 0) ∧ Sl E T v ys X' ∧ L = [X']) := by
  rcases hS with ⟨rfl, rfl, rfl⟩ | ⟨b, c, cs, rfl, rfl, h1, h2, h3, h4⟩
  · refine Calls.mono (AnyF.slices_SortFunc_none Ly none 0 (.func (.func g) #[] cb) w) fun en w' h => ?_
    obtain ⟨rfl, rfl⟩ := h
    exact ⟨_, _, rfl, ⟨rfl, [], _, .refl _, .nil, sl_nil, rfl⟩, hT⟩
  · have hsz : (flatK E.cells E.sz xs.toArray).size = xs.length * E.sz := by simp
    have hfit : xs.length * E.sz ≤ cs.size := by rw [h3]; exact Nat.mul_le_mul_right _ h1
    have hH : HoldsK E.cells E.sz w b 0 xs.toArray := holds_of_tot hT (by rw [hsz, h4, flatK_all]) (by rw [hsz]; exact hfit)
    have hlt : b < w.heap.size := (Array.getElem?_eq_some_iff.1 (hT.head b _ (pt_self b _))).1
    have hcmp : CmpLays P g cb E.cells E.sz cf b 0 xs.toArray.size w := fun m os dk _ x y => by
      refine Calls.mono (hcb _ _ _ x y (tot_whole (sortWorldK E.cells E.sz w b 0 m dk os))) fun en w' h => ?_
      obtain ⟨v, L, rfl, ⟨rfl, rfl⟩, hT'⟩ := h
      exact ⟨rfl, grown_of_tot (L := []) hT'⟩
    have hc := AnyQ.slices_SortFunc Ly E.sz aE zE E.cells E.len E.one cf hO g cb b 0 c xs.toArray w hcan hcmp hH hlt (by simp; omega)
    refine Calls.mono (show Calls P (ρ.f 6) #[.slice (some ⟨b, 0, none⟩) xs.length c, .func (.func g) #[] cb] w _ from hc) fun en w' h => ?_
    obtain ⟨rfl, d', n, os, hp, hs, rfl⟩ := h
    have hdl : d'.size = xs.length := by rw [hp.1]; simp
    have hpm : d'.toList.Perm xs := by
      have h5 := hp.2.2
      rw [show xs.toArray.size = d'.size from hp.1.symm] at h5
      have h6 : d'.extract 0 d'.size = d' := by simp
      have h7 : xs.toArray.extract 0 d'.size = xs.toArray := by rw [hdl]; simp
      rw [h6, h7] at h5; exact h5
    have hpw : d'.toList.Pairwise fun x y => ¬ cf y x < 0 := by
      rw [List.pairwise_iff_getElem]
      intro i j hi hj hij
      have h5 := hs i j (Nat.zero_le _) hij (by have : j < d'.size := hj; simp; omega)
      rw [getElem!_pos d' j hj, getElem!_pos d' i hi] at h5
      simpa [ltOf] using h5
    have hT' := tot_putRow (L := R) hT (flatK E.cells E.sz d') n os
    have hsz' : (flatK E.cells E.sz d').size = d'.toList.length * E.sz := by rw [size_flatK]; rfl
    refine ⟨_, [_], rfl, ⟨rfl, d'.toList, _, hpm, hpw, .inr ⟨b, c, _, ?_, rfl, ?_, h2, ?_, ?_⟩, rfl⟩, hT'⟩
    · rw [show d'.toList.length = xs.length from hdl]
    · rw [show d'.toList.length = xs.length from hdl]; exact h1
    · simp only [putCells, Array.size_mapIdx]; exact h3
    · rw [← hsz', take_putCells (by rw [size_flatK, hdl]; exact hfit), flatK_all]
end
/-- slices.Sort at a 64 bit integer, in own words. -/
theorem sortInt_spec {P : Program} {ρ : Shelf.Ren} (Ly : SlLaysM.n5 P ρ) {E : Enc Int} (hE : ∀ x, E.cells x = [.int .i64 x]) (h1z : E.sz = 1) {T : TypeId} {e : Env} {w : World} {R : List Part} {v : Value} {xs : List Int} {X : Part} (hS : Sl E T v xs X) (hlen : xs.length ≤ 1000000)
    (hT : Tot e w ([X] ++ R)) : Spec P (ρ.f 5) #[v] e w R (fun v' L => v' = .tuple #[] ∧ ∃ X', Sl E T v (xs.mergeSort fun x y => decide (x ≤ y)) X' ∧ L = [X']) := by
  rcases hS with ⟨rfl, rfl, rfl⟩ | ⟨b, c, cs, rfl, rfl, h1, h2, h3, h4⟩
  · refine Calls.mono (AnyM.slices_Sort_int_none Ly none 0 w) fun en w' h => ?_
    obtain ⟨rfl, rfl⟩ := h
    exact ⟨_, _, rfl, ⟨rfl, _, by rw [List.mergeSort_nil]; exact sl_nil, rfl⟩, hT⟩
  · have hall : ∀ zs : List Int, E.all zs = zs.map fun x => Value.int .i64 x := fun zs => by
      induction zs with
      | nil => rfl
      | cons z zs ih => rw [show E.all (z :: zs) = E.cells z ++ E.all zs from rfl, ih, hE]; rfl
    rw [h1z, Nat.mul_one] at h3 h4
    rw [hall] at h4
    have hput : ∀ (W : World) (zs : List Int), putRow (Value.int .i64) W b 0 zs.toArray = putRow id W b 0 (zs.map fun x => Value.int .i64 x).toArray := fun W zs => by
      unfold putRow
      refine mapBlock_congr W b _ _ fun c e fr _ => ?_
      unfold putCells
      apply Array.ext (by simp)
      intro k h5 h6
      simp only [Array.getElem_mapIdx, List.size_toArray, List.length_map]
      by_cases hk : 0 ≤ k ∧ k < 0 + zs.length
      · rw [if_pos hk, if_pos hk, getElem!_pos _ _ (by simp; omega), getElem!_pos _ _ (by simp; omega)]; simp
      · rw [if_neg hk, if_neg hk]
    have hH : Holds (Value.int .i64) w b 0 xs.toArray := by
      have h5 : Holds id w b 0 (xs.map fun x => Value.int .i64 x).toArray := holds_of_tot hT (by simpa using h4) (by simp; omega)
      intro j hj
      have h6 := h5 j (by simpa using hj)
      rw [getElem!_pos _ j (by simpa using hj)] at h6
      rw [getElem!_pos _ j hj]
      simpa using h6
    have hlt : b < w.heap.size := (Array.getElem?_eq_some_iff.1 (hT.head b _ (pt_self b _))).1
    refine Calls.mono (AnyM.slices_Sort_int Ly b 0 c xs w hH hlt (by omega)) fun en w' h => ?_
    obtain ⟨rfl, n, os, rfl⟩ := h
    rw [hput]
    have hl : (xs.mergeSort fun x y => decide (x ≤ y)).length = xs.length := List.length_mergeSort _
    have hT' := tot_putRow (L := R) hT ((xs.mergeSort fun x y => decide (x ≤ y)).map fun x => Value.int .i64 x).toArray n os
    refine ⟨_, [_], rfl, ⟨rfl, _, .inr ⟨b, c, _, by rw [hl], rfl, by rw [hl]; exact h1, h2, ?_, ?_⟩, rfl⟩, hT'⟩
    · simp only [putCells, Array.size_mapIdx]; rw [h1z, Nat.mul_one]; exact h3
    · have h5 := take_putCells (cs := cs) (F := ((xs.mergeSort fun x y => decide (x ≤ y)).map fun x => Value.int .i64 x).toArray) (by simp [hl]; omega)
      rw [h1z, Nat.mul_one, hall]
      simpa using h5
end Go.Proofs.Ytjhbgciocffihaa
