/-
  Own words, part 4: slices: of the call's own ('Sl'), and whatever slices are read ('Els'); index, len, append, literals, copy.
-/
import Derived.Test.YtjhbgciocffihaaK3
import Derived.Maps.AppendAt
import Derived.Laws.CopyRow
set_option linter.unusedVariables false
set_option linter.unusedSimpArgs false
namespace Go.Proofs.Ytjhbgciocffihaa

/-- How an element lies in cells. -/
structure Enc (α : Type) where
  cells : α → List Value
  sz : Nat
  len : ∀ a, (cells a).length = sz
  one : ∀ a, ∀ u ∈ cells a, u.oneCell' = true
  pos : 0 < sz
def encI : Enc Int := ⟨fun n => [.int .i64 n], 1, fun _ => rfl, fun a u h => by simp at h; subst h; rfl, by decide⟩
def encB : Enc Bool := ⟨fun n => [.bool n], 1, fun _ => rfl, fun a u h => by simp at h; subst h; rfl, by decide⟩

section
variable {α : Type} (E : Enc α)
def Enc.all (xs : List α) : List Value := xs.flatMap E.cells
theorem Enc.all_length (xs : List α) : (E.all xs).length = xs.length * E.sz := by
  induction xs with
  | nil => simp [Enc.all]
  | cons x xs ih => simp only [Enc.all, List.flatMap_cons, List.length_append, E.len, List.length_cons] at ih ⊢; rw [ih, Nat.add_mul]; omega
theorem Enc.all_append (xs ys : List α) : E.all (xs ++ ys) = E.all xs ++ E.all ys := by simp [Enc.all]
theorem Enc.all_get {xs : List α} {j : Nat} {x : α} (hj : xs[j]? = some x) {f : Nat} (hf : f < E.sz) : (E.all xs)[j * E.sz + f]? = (E.cells x)[f]? := by
  induction xs generalizing j with
  | nil => simp at hj
  | cons y xs ih =>
    simp only [Enc.all, List.flatMap_cons] at ih ⊢
    cases j with
    | zero =>
      simp at hj; subst hj
      rw [List.getElem?_append_left (by rw [E.len]; omega)]; simp
    | succ j =>
      simp at hj
      rw [List.getElem?_append_right (by rw [E.len, Nat.succ_mul]; omega), E.len]
      rw [show (j + 1) * E.sz + f - E.sz = j * E.sz + f by rw [Nat.succ_mul]; omega]
      exact ih hj
theorem Enc.all_one (xs : List α) : ∀ u ∈ E.all xs, u.oneCell' = true := by
  intro u hu
  obtain ⟨x, _, hx⟩ := List.mem_flatMap.1 hu
  exact E.one x u hx
end

def blk : Value → Nat
  | .slice (some a) _ _ => a.block
  | _ => 0
def offs : Value → Nat
  | .slice (some a) _ _ => a.off
  | _ => 0
def capOf : Value → Nat
  | .slice _ _ c => c
  | _ => 0

/-- A slice of the call's own: nil, or a row at the head of a block of its own. -/
def Sl {α : Type} (E : Enc α) (T : TypeId) (v : Value) (xs : List α) (x : Part) : Prop :=
  (v = .slice none 0 0 ∧ xs = [] ∧ x = fun _ => none) ∨
  ∃ b c cs, v = .slice (some ⟨b, 0, none⟩) xs.length c ∧ x = pt b (.cells cs T) ∧ xs.length ≤ c ∧ c ≤ maxLen ∧ cs.size = c * E.sz ∧ cs.toList.take (xs.length * E.sz) = E.all xs
/-- A slice that is read: its elements lie in R. -/
structure Els {α : Type} (E : Enc α) (R : List Part) (v : Value) (xs : List α) : Prop where
  shape : ∃ A c, v = .slice A xs.length c ∧ (0 < xs.length → ∃ b o, A = some ⟨b, o, none⟩) ∧ xs.length ≤ maxLen
  at_ : ∀ j x, xs[j]? = some x → RowIn R (blk v) (offs v + j * E.sz) (E.cells x)

section
variable {α : Type} {E : Enc α} {T : TypeId} {v : Value} {xs : List α} {x : Part} {R R' : List Part}
theorem sl_nil : Sl E T (.slice none 0 0) ([] : List α) (fun _ => none) := .inl ⟨rfl, rfl, rfl⟩
theorem Els.mono (h : Els E R v xs) (hs : ∀ x ∈ R, x ∈ R') : Els E R' v xs := ⟨h.shape, fun j x hj k u hk => (h.at_ j x hj k u hk).mono hs⟩
theorem Els.app (h : Els E R v xs) : Els E (R' ++ R) v xs := h.mono fun _ hx => List.mem_append_right _ hx
theorem CellIn.app {b n : Nat} {v : Value} (h : CellIn R b n v) : CellIn (R' ++ R) b n v := h.mono fun _ hx => List.mem_append_right _ hx
theorem MapIn.app {κ β : Type} {encK : κ → Value} {encV : β → Value} {b : Nat} {m : List (κ × β)} (h : MapIn encK encV R b m) : MapIn encK encV (R' ++ R) b m := h.mono fun _ hx => List.mem_append_right _ hx
theorem Sl.els (h : Sl E T v xs x) (hx : x ∈ R) : Els E R v xs := by
  rcases h with ⟨rfl, rfl, rfl⟩ | ⟨b, c, cs, rfl, rfl, h1, h2, h3, h4⟩
  · exact ⟨⟨none, 0, rfl, fun h => absurd h (by simp), by simp⟩, fun j x hj => by simp at hj⟩
  · refine ⟨⟨_, c, rfl, fun _ => ⟨b, 0, rfl⟩, by omega⟩, fun j y hj k u hk => ?_⟩
    refine ⟨_, hx, cs, T, _, pt_self b _, ?_⟩
    have hlt := (List.getElem?_eq_some_iff.1 hj).1
    have hk' : k < E.sz := by rw [← E.len y]; exact (List.getElem?_eq_some_iff.1 hk).1
    have h5 := E.all_get hj hk'
    rw [← h4, List.getElem?_take, if_pos (by have : (j + 1) * E.sz ≤ xs.length * E.sz := Nat.mul_le_mul_right _ hlt; rw [Nat.succ_mul] at this; omega), hk] at h5
    simp only [blk, offs, Nat.zero_add]
    rw [nth_eq]
    exact h5
theorem Els.len_le (h : Els E R v xs) : xs.length ≤ 9223372036854775807 := by obtain ⟨A, c, _, _, h⟩ := h.shape; simpa [maxLen] using h
theorem Sl.len_le (h : Sl E T v xs x) : xs.length ≤ 9223372036854775807 := (h.els (R := [x]) (List.mem_cons_self ..)).len_le

variable {P : Program} {l : List (Nat × Value)} {ty : TypeId}
theorem yl_lenE {y : Operand} {t e : TypeId} (hv : ev l y = some v) (hu : P.underlying t = some (.slice e)) (h : Els E R v xs) : Yl P R l (.call ⟨.builtin .len, #[y], #[t]⟩) ty (.int .i64 xs.length) := by
  obtain ⟨A, c, rfl, _⟩ := h.shape
  exact yl_len hv hu
theorem yl_indexE {t e : TypeId} {y z : Operand} {j : Int} (hv : ev l y = some v) (hj : ev l z = some (.int .i64 j)) (hu : P.underlying t = some (.slice e)) (hs : (P.info? e).map (·.size) = some E.sz) (h : Els E R v xs) (h0 : 0 ≤ j) (h1 : j < xs.length) :
    Yl P R l (.indexAddr t y z) ty (.pointer (some ⟨blk v, offs v + j.toNat * E.sz, none⟩)) := by
  obtain ⟨A, c, rfl, hA, _⟩ := h.shape
  obtain ⟨b, o, rfl⟩ := hA (by omega)
  exact yl_index hv hj hu hs h0 h1 rfl
/-- An element is read, a cell or all its cells. -/
theorem Els.row (h : Els E R v xs) {j : Nat} {y : α} (hj : xs[j]? = some y) : RowIn R (blk v) (offs v + j * E.sz) (E.cells y) := h.at_ j y hj
theorem Els.cell (h : Els E R v xs) {j : Nat} {y : α} (hj : xs[j]? = some y) {f : Nat} {u : Value} (hf : (E.cells y)[f]? = some u) : CellIn R (blk v) (offs v + j * E.sz + f) u := h.at_ j y hj f u hf
theorem Els.cell0 (h : Els E R v xs) {j : Nat} {y : α} (hj : xs[j]? = some y) {u : Value} (hf : (E.cells y)[0]? = some u) : CellIn R (blk v) (offs v + j * E.sz) u := h.at_ j y hj 0 u hf
theorem RowIn.part {b o : Nat} {vs : List Value} (h : RowIn R b o vs) (k n : Nat) : RowIn R b (o + k) ((vs.drop k).take n) := fun j u hj => by
  rw [List.getElem?_take] at hj
  split at hj
  · rw [List.getElem?_drop] at hj
    rw [Nat.add_assoc]; exact h _ u hj
  · cases hj
end

/-! ### append -/
section
variable {α : Type} {E : Enc α} {T t : TypeId} {v u : Value} {xs ys : List α} {X : Part} {R L : List Part} {P : Program} {l : List (Nat × Value)} {ty : TypeId} {e : Env}
theorem Els.cellsAt (h : Els E R v xs) {w : World} (hw : HasAll w R) (hp : 0 < xs.length) : ∃ b o c, v = .slice (some ⟨b, o, none⟩) xs.length c ∧ ∀ j q, (E.all xs)[j]? = some q → w.cell? ((⟨b, o, none⟩ : Addr).add j) = some q := by
  obtain ⟨A, c, rfl, hA, _⟩ := h.shape
  obtain ⟨b, o, rfl⟩ := hA hp
  refine ⟨b, o, c, rfl, fun j q hj => ?_⟩
  rw [add_at]
  have hlt : j < xs.length * E.sz := by rw [← E.all_length]; exact (List.getElem?_eq_some_iff.1 hj).1
  have hq : j / E.sz < xs.length := Nat.div_lt_of_lt_mul (by rw [Nat.mul_comm]; exact hlt)
  have hm := Nat.mod_lt j E.pos
  have hd := Nat.div_add_mod j E.sz
  have hx := List.getElem?_eq_getElem hq
  have h2 := E.all_get hx hm
  rw [show j / E.sz * E.sz + j % E.sz = j by rw [Nat.mul_comm]; exact hd, hj] at h2
  have h3 := (h.at_ _ _ hx (j % E.sz) q h2.symm).at_ hw
  simp only [blk, offs] at h3
  rw [show o + j / E.sz * E.sz + j % E.sz = o + j by rw [Nat.add_assoc, Nat.mul_comm (j / E.sz), hd]] at h3
  exact h3
theorem ef_append {x y : Operand} (hx : ev l x = some v) (hy : ev l y = some u) (ht : P.underlying t = some (.slice T)) {z : Value} {by_ : Nat} (hinfo : (P.info? T).map (fun i => (i.zero, i.size, i.bytes)) = some (some z, E.sz, by_)) (hz : z.cells.size = E.sz)
    (hS : Sl E T v xs X) (hE : Els E (X :: L ++ R) u ys) (hb : (xs.length + ys.length) * by_ ≤ 140737488355328) (hl2 : xs.length + ys.length ≤ maxLen) :
    Ef P e l (.call ⟨.builtin .append, #[x, y], #[t, t]⟩) ty (X :: L) R (fun v' L' => ∃ X', Sl E T v' (xs ++ ys) X' ∧ L' = X' :: L) := by
  intro a w ha hT dst pos after guard
  obtain ⟨i, hi, hzz⟩ := Option.map_eq_some_iff.1 hinfo
  simp only [Prod.mk.injEq] at hzz
  obtain ⟨hz0, hz1, hz2⟩ := hzz
  have hrun : ∀ v' w', (Builtin.append_ #[t, t] ty #[v, u]).run P w = .ok v' w' → (execOp a.eval ⟨dst, .call ⟨.builtin .append, #[x, y], #[t, t]⟩, ty, pos, after, guard⟩).run P w = .ok (.value v') w' := by
    intro v' w' h
    simp only [execOp, resolve, invoke, builtin, Sem.run_bind, Sem.run_pure, Result.andThen_ok, List.map_toArray, List.map_cons, List.map_nil, ha.ev hx, ha.ev hy, h]
  have hown : w.ownsRow 0 T E.sz v xs.length (E.all xs) := by
    refine ⟨E.all_length xs, ?_⟩
    rcases hS with ⟨rfl, rfl, rfl⟩ | ⟨b, c, cs, rfl, rfl, h1, h2, h3, h4⟩
    · exact .inl ⟨rfl, rfl⟩
    · exact .inr ⟨b, c, cs, rfl, Nat.zero_le _, hT.head b _ (pt_self b _), h1, h2, h3, h4⟩
  by_cases hy0 : ys.length = 0
  · -- nothing is appended
    obtain rfl := List.eq_nil_of_length_eq_zero hy0
    obtain ⟨A, c, rfl, _, _⟩ := hE.shape
    refine ⟨v, w, X :: L, hrun _ _ ?_, ⟨X, by simpa using hS, rfl⟩, hT⟩
    rcases hS with ⟨rfl, rfl, rfl⟩ | ⟨b, c', cs, rfl, rfl, h1, h2, h3, h4⟩
    · cases A <;> simp [Builtin.append_, Sem.run_bind, run_underlying' ht, sizeOf, typeInfo, program, Sem.run, hi, Builtin.lenOf, Builtin.firstCells, pure, Sem.pure, loadCells, loadCellsFrom, Result.andThen]
    · cases A <;> simp [Builtin.append_, Sem.run_bind, run_underlying' ht, sizeOf, typeInfo, program, Sem.run, hi, Builtin.lenOf, Builtin.firstCells, pure, Sem.pure, loadCells, loadCellsFrom, Result.andThen, h1, storeCells]
  · obtain ⟨b, o, c, rfl, hc⟩ := hE.cellsAt hT.all (by omega)
    obtain ⟨v', w', hr, hown', hg, _, hat⟩ := run_append_own_at (P := P) (w := w) 0 t ty T i z E.sz by_ ht hi hz0 hz1 hz2 hz E.pos v xs.length (E.all xs) hown ⟨b, o, none⟩ ys.length c (E.all ys) (E.all_length ys) hc (E.all_one ys) hl2 hb (Nat.zero_le _)
    refine ⟨v', w', ?_⟩
    rcases hown'.2 with ⟨_, h0⟩ | ⟨b', c', cs', rfl, _, hh, h1, h2, h3, h4⟩
    · omega
    · refine ⟨pt b' (.cells cs' T) :: L, hrun _ _ hr, ⟨_, .inr ⟨b', c', cs', by rw [List.length_append], rfl, by rw [List.length_append]; exact h1, h2, h3, by rw [List.length_append, E.all_append]; exact h4⟩, rfl⟩, ?_⟩
      have hap := List.pairwise_cons.1 (show (X :: (L ++ R)).Pairwise Apart from hT.apart)
      -- whoever else lies there lies where nothing turned
      have hne : ∀ z ∈ L ++ R, ∀ k o', z k = some o' → k ≠ b' := by
        intro z hz k o' hk he
        subst he
        have hlt := (hT.has z (List.mem_cons_of_mem _ hz)).lt hk
        rcases hat with hat | hat
        · rcases hS with ⟨rfl, rfl, rfl⟩ | ⟨b0, c0, cs0, rfl, rfl, _⟩
          · simp [Value.ownBlock] at hat
          · have : k = b0 := by simpa [Value.ownBlock] using hat
            subst this
            rcases hap.1 z hz k with h5 | h5
            · simp [pt] at h5
            · rw [h5] at hk; cases hk
        · have : k = w.heap.size := by simpa [Value.ownBlock] using hat
          omega
      have hrow : ∀ z ∈ L ++ R, ∀ k o', z k = some o' → some k ≠ v.ownBlock := by
        intro z hz k o' hk he
        rcases hS with ⟨rfl, rfl, rfl⟩ | ⟨b0, c0, cs0, rfl, rfl, _⟩
        · simp [Value.ownBlock] at he
        · have : k = b0 := by simpa [Value.ownBlock] using he
          subst this
          rcases hap.1 z hz k with h5 | h5
          · simp [pt] at h5
          · rw [h5] at hk; cases hk
      refine ⟨hg.os.trans hT.os, hg.tape.trans hT.tape, hg.output.trans hT.output, Nat.le_trans hT.dr (run_drawn _ _ _ _ hr), ?_, ?_⟩
      · intro z hz k o' hk
        rcases List.mem_cons.1 hz with rfl | hz
        · by_cases he : k = b'
          · subst he; simp [pt] at hk; subst hk; exact hh
          · simp [pt, he] at hk
        · have h6 := hT.has z (List.mem_cons_of_mem _ hz)
          rw [hg.block k (h6.lt hk) (hrow z hz k o' hk)]
          exact h6 k o' hk
      · refine List.pairwise_cons.2 ⟨fun z hz k => ?_, hap.2⟩
        by_cases he : k = b'
        · right
          cases hzk : z k with
          | none => rfl
          | some o' => exact absurd he (hne z hz k o' hzk)
        · left; simp [pt, he]

/-! literals -/
def evp (l : List (Nat × Value)) : List (Nat × Operand) → Option (List (Nat × Value))
  | [] => some []
  | p :: ps => match ev l p.2, evp l ps with
    | some v, some vs => some ((p.1, v) :: vs)
    | _, _ => none
theorem Knows.evp {a : Act} (ha : Knows l a) : ∀ {ps : List (Nat × Operand)} {vs : List (Nat × Value)}, evp l ps = some vs → ps.map (fun p => (p.1, a.eval p.2)) = vs
  | [], vs, h => by simp [Ytjhbgciocffihaa.evp] at h; simp [h]
  | p :: ps, vs, h => by
    simp only [Ytjhbgciocffihaa.evp] at h
    split at h
    · rename_i v vs' h1 h2
      simp at h; subst h
      simp [ha.ev h1, ha.evp h2]
    · cases h
def splice (l : List Value) (off : Nat) (cs : List Value) : List Value := l.take off ++ cs ++ l.drop (off + cs.length)
theorem foldl_splice (off : Nat) : ∀ (cs : List Value) (k : Nat) (c0 : Array Value), off + k + cs.length ≤ c0.size →
    ((cs.zipIdx k).foldl (fun acc (p : Value × Nat) => acc.setIfInBounds (off + p.2) p.1) c0).toList = c0.toList.take (off + k) ++ cs ++ c0.toList.drop (off + k + cs.length)
  | [], k, c0, h => by simp
  | c :: cs, k, c0, h => by
    simp only [List.length_cons] at h
    rw [List.zipIdx_cons, List.foldl_cons, foldl_splice off cs (k + 1) _ (by simp; omega)]
    simp only [Array.toList_setIfInBounds]
    apply List.ext_getElem?
    intro j
    have hl : c0.toList.length = c0.size := Array.length_toList
    by_cases h1 : j < off + k
    · rw [List.append_assoc, List.getElem?_append_left (by simp; omega), List.append_assoc, List.getElem?_append_left (by simp; omega)]
      rw [List.getElem?_take, List.getElem?_take, if_pos (by omega), if_pos h1, List.getElem?_set, if_neg (by omega)]
    · by_cases h2 : j = off + k
      · subst h2
        rw [List.append_assoc, List.getElem?_append_left (by simp; omega), List.append_assoc, List.getElem?_append_right (by simp; omega)]
        rw [List.getElem?_take, if_pos (by omega), List.getElem?_set, if_pos rfl]
        rw [if_pos (by omega)]
        simp [Nat.min_eq_left (show off + k ≤ c0.size by omega)]
      · obtain ⟨m, rfl⟩ : ∃ m, j = off + k + 1 + m := ⟨j - (off + k + 1), by omega⟩
        have e1 : (List.take (off + (k + 1)) (c0.toList.set (off + k) c)).length = off + k + 1 := by rw [List.length_take, List.length_set, hl]; omega
        have e2 : (List.take (off + k) c0.toList).length = off + k := by rw [List.length_take, hl]; omega
        have r1 : (List.take (off + (k + 1)) (c0.toList.set (off + k) c) ++ cs ++ List.drop (off + (k + 1) + cs.length) (c0.toList.set (off + k) c))[off + k + 1 + m]? = (cs ++ List.drop (off + (k + 1) + cs.length) (c0.toList.set (off + k) c))[m]? := by
          rw [List.append_assoc, List.getElem?_append_right (by omega), e1]; congr 1; omega
        have r2 : (List.take (off + k) c0.toList ++ (c :: cs) ++ List.drop (off + k + (c :: cs).length) c0.toList)[off + k + 1 + m]? = (cs ++ List.drop (off + k + (c :: cs).length) c0.toList)[m]? := by
          rw [List.append_assoc, List.getElem?_append_right (by omega), e2, show off + k + 1 + m - (off + k) = m + 1 by omega, List.cons_append, List.getElem?_cons_succ]
        rw [r1, r2]
        by_cases h3 : m < cs.length
        · rw [List.getElem?_append_left h3, List.getElem?_append_left h3]
        · rw [List.getElem?_append_right (by omega), List.getElem?_append_right (by omega), List.getElem?_drop, List.getElem?_drop, List.getElem?_set, if_neg (by omega)]
          simp only [List.length_cons]
          congr 1; omega
def fillL (place : Nat → Option (Nat × Nat)) (cells : List Value) : List (Nat × Value) → Option (List Value)
  | [] => some cells
  | p :: rest => match place p.1 with
    | none => none
    | some q => if p.2.cells.toList.length = q.2 ∧ q.1 + p.2.cells.toList.length ≤ cells.length then fillL place (splice cells q.1 p.2.cells.toList) rest else none
theorem fill_of_fillL {place : Nat → Option (Nat × Nat)} : ∀ (ps : List (Nat × Value)) (c0 : Array Value) (out : List Value), fillL place c0.toList ps = some out → Instr.fill place c0 ps = some out.toArray
  | [], c0, out, h => by simp [fillL] at h; simp [Instr.fill, ← h]
  | (i, v) :: rest, c0, out, h => by
    simp only [fillL] at h
    simp only [Instr.fill]
    cases hp : place i with
    | none => rw [hp] at h; cases h
    | some q =>
      obtain ⟨off, size⟩ := q
      rw [hp] at h
      simp only at h ⊢
      split at h
      · rename_i hc
        obtain ⟨hc1, hc2⟩ := hc
        simp only [Array.length_toList] at hc1 hc2
        rw [if_neg (by simp [hc1]; omega)]
        refine fill_of_fillL rest _ out ?_
        rw [← h]
        congr 1
        have := foldl_splice off v.cells.toList 0 c0 (by simp; omega)
        rw [← Array.foldl_toList, Array.toList_zipIdx]
        simp only [Nat.add_zero] at this
        rw [splice]
        exact this
      · cases h
theorem fill_all {xs : List α} {us : List Value} (h : us.map (fun u => u.cells.toList) = xs.map E.cells) : ∀ (k : Nat) (ks : List Nat) (c0 : List Value), ks = List.range' k us.length → c0.length = (k + us.length) * E.sz →
    fillL (fun i => some (i * E.sz, E.sz)) c0 (ks.zip us) = some (c0.take (k * E.sz) ++ E.all xs) := by
  induction us generalizing xs with
  | nil =>
    intro k ks c0 hk hc
    obtain rfl : xs = [] := by cases xs with | nil => rfl | cons => simp at h
    simp at hk hc; subst hk
    simp [fillL, Enc.all, ← hc]
  | cons u us ih =>
    intro k ks c0 hk hc
    cases xs with
    | nil => simp at h
    | cons x xs =>
      simp only [List.map_cons, List.cons.injEq] at h
      subst hk
      simp only [List.length_cons, List.range'_succ, List.zip_cons_cons, fillL]
      have hu : u.cells.toList.length = E.sz := by rw [h.1, E.len]
      have hc' : c0.length = k * E.sz + E.sz + us.length * E.sz := by rw [hc]; simp only [List.length_cons]; rw [Nat.add_mul, Nat.add_mul]; omega
      rw [if_pos ⟨hu, by rw [hu]; omega⟩]
      rw [ih h.2 (k + 1) _ _ rfl (by simp only [splice, List.length_append, List.length_take, List.length_drop, hu, hc']; rw [Nat.add_mul, Nat.add_mul]; omega)]
      simp only [splice, Enc.all, List.flatMap_cons, ← h.1]
      rw [List.take_append_of_le_length (by simp only [List.length_append, List.length_take, hu, hc', Nat.add_mul]; omega)]
      rw [List.take_of_length_le (by simp only [List.length_append, List.length_take, hu, hc', Nat.add_mul]; omega)]
      simp
theorem ef_buildSlice {n : Nat} {parts : Array (Nat × Operand)} {us : List Value} (hp : evs l (parts.toList.map (·.2)) = some us) (hi : parts.toList.map (·.1) = List.range n) (ht : P.underlying t = some (.slice T)) {z : Value} (hinfo : (P.info? T).map (fun i => (i.zero, i.size)) = some (some z, E.sz))
    (hlen : xs.length = n) (hsz : n * E.sz ≤ 16777216) (hx : us.map (fun u => u.cells.toList) = xs.map E.cells) (hpos : 0 < n) :
    Ef P e l (.buildSlice t n parts) ty L R (fun v' L' => ∃ b X', v' = .slice (some ⟨b, 0, none⟩) n n ∧ Sl E T v' xs X' ∧ L' = X' :: L) := by
  intro a w ha hT dst pos after guard
  obtain ⟨i, hi', hzz⟩ := Option.map_eq_some_iff.1 hinfo
  simp only [Prod.mk.injEq] at hzz
  obtain ⟨hz0, hz1⟩ := hzz
  have hsz' : (sizeOf T).run P w = .ok E.sz w := by simp [sizeOf, typeInfo, program, Sem.run_bind, Sem.run, Result.andThen, hi', hz1, pure, Sem.pure]
  have hzr : (zeroValue T).run P w = .ok z w := by simp [zeroValue, typeInfo, program, Sem.run_bind, Sem.run, Result.andThen, hi', hz0, pure]
  have hn0 : ¬ n * E.sz = 0 := by have := Nat.mul_pos hpos E.pos; omega
  have hul : us.length = n := by have := congrArg List.length hx; simp at this; omega
  refine ⟨.slice (some ⟨w.heap.size, 0, none⟩) n n, w.alloc (.cells (E.all xs).toArray T), pt w.heap.size (.cells (E.all xs).toArray T) :: L, ?_, ⟨_, _, rfl, .inr ⟨_, n, _, by rw [hlen], rfl, by omega, ?_, ?_, ?_⟩, rfl⟩, hT.alloc _⟩
  · have hvs : (parts.map fun (i, x) => (i, a.eval x)).toList = (List.range n).zip us := by
      rw [← hi, ← ha.evs hp, Array.toList_map, List.map_map, List.zip_map']
      rfl
    have hf : Instr.fill (fun i => some (i * E.sz, E.sz)) ((Array.range (n * E.sz)).map (z.cells[· % z.cells.size]!)) ((List.range n).zip us) = some (E.all xs).toArray := by
      refine fill_of_fillL _ _ _ ?_
      rw [fill_all hx 0 (List.range n) _ (by rw [hul, List.range_eq_range']) (by simp [hul])]
      simp
    simp only [execOp, Instr.buildSlice]
    rw [Sem.run_bind, Sem.run_bind, run_underlying' ht]
    simp only [Result.andThen_ok]
    rw [Sem.run_bind, hsz']
    simp only [Result.andThen_ok]
    rw [if_neg (by omega)]
    simp only [Sem.run_bind, Sem.run_pure, Result.andThen_ok, if_neg hn0, hzr, hvs, hf, newRow, newObj]
    rfl
  · simp only [maxLen]; have := Nat.le_mul_of_pos_right n E.pos; omega
  · simp [E.all_length, hlen]
  · rw [← E.all_length]; simp
/-- A struct's literal. -/
theorem yl_build {parts : Array (Nat × Operand)} {us : List Value} {fs : Array Field} {places : List (Nat × Nat)} {out : List Value} (hp : evs l (parts.toList.map (·.2)) = some us) (ht : P.underlying t = some (.struct fs)) {z : Value} (hz : (P.info? t).map (·.zero) = some (some z))
    (hpl : fs.toList.map (fun f => (f.offset, ((P.info? f.type).map (·.size)).getD 0)) = places) (hpl2 : fs.toList.all (fun f => (P.info? f.type).isSome) = true)
    (hf : fillL (fun i => places[i]?) z.cells.toList ((parts.toList.map (·.1)).zip us) = some out) : Yl P R l (.build t parts) ty (.agg out.toArray) := by
  intro a w ha hw dst pos after guard
  have hvs : (parts.map fun (i, x) => (i, a.eval x)).toList = (parts.toList.map (·.1)).zip us := by
    rw [← ha.evs hp, Array.toList_map, List.map_map, List.zip_map']
    rfl
  have hzr := run_zero hz w
  have hm : ∀ (gs : List Field), gs.all (fun f => (P.info? f.type).isSome) = true → (gs.mapM (fun f => do pure (f.offset, ← sizeOf f.type)) : Sem (List (Nat × Nat))).run P w = .ok (gs.map (fun f => (f.offset, ((P.info? f.type).map (·.size)).getD 0))) w := by
    intro gs
    induction gs with
    | nil => intro _; simp [Sem.run_pure]
    | cons g gs ih =>
      intro hall
      simp only [List.all_cons, Bool.and_eq_true] at hall
      obtain ⟨i, hi⟩ := Option.isSome_iff_exists.1 hall.1
      have hsz : (sizeOf g.type).run P w = .ok i.size w := by simp [sizeOf, typeInfo, program, Sem.run_bind, Sem.run, Result.andThen, hi, pure, Sem.pure]
      rw [List.mapM_cons, Sem.run_bind, Sem.run_bind, hsz]
      simp only [Result.andThen_ok, Sem.run_pure]
      rw [Sem.run_bind, ih hall.2]
      simp [Sem.run_pure, hi]
  simp only [execOp, Instr.build]
  rw [Sem.run_bind, Sem.run_bind, hzr]
  simp only [Result.andThen_ok]
  rw [Sem.run_bind, run_underlying' ht]
  simp only [Result.andThen_ok]
  have hma : (fs.mapM (fun f => do pure (f.offset, ← sizeOf f.type)) : Sem (Array (Nat × Nat))).run P w = .ok places.toArray w := by
    rw [← hpl]
    have : fs = fs.toList.toArray := by simp
    rw [this, List.mapM_toArray]
    simp only [map_eq_pure_bind]
    rw [Sem.run_bind, hm fs.toList hpl2]
    simp [Sem.run_pure]
  rw [Sem.run_bind, hma]
  simp only [Result.andThen_ok, hvs]
  rw [fill_of_fillL _ _ out (by simpa using hf)]
  simp [Sem.run_pure]
end
end Go.Proofs.Ytjhbgciocffihaa
