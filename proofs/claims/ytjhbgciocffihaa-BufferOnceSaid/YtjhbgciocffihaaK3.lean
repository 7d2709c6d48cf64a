/-
  Own words, part 3: maps: what a map's block holds ('MapL'), by a list of keys and values without repeats; look-up, store, delete, len.
-/
import Derived.Test.YtjhbgciocffihaaK2
set_option linter.unusedVariables false
set_option linter.unusedSimpArgs false
namespace Go.Proofs.Ytjhbgciocffihaa

section
variable {κ α : Type} [DecidableEq κ]
def assoc : List (κ × α) → κ → Option α
  | [], _ => none
  | p :: m, k => if p.1 = k then some p.2 else assoc m k
def upd : List (κ × α) → κ → α → List (κ × α)
  | [], k, v => [(k, v)]
  | p :: m, k, v => if p.1 = k then (k, v) :: m else p :: upd m k v
def del (m : List (κ × α)) (k : κ) : List (κ × α) := m.filter fun p => decide (p.1 ≠ k)
def idx? : List (κ × α) → κ → Option (Nat × α)
  | [], _ => none
  | p :: m, k => if p.1 = k then some (0, p.2) else (idx? m k).map fun q => (q.1 + 1, q.2)
theorem assoc_idx (m : List (κ × α)) (k : κ) : assoc m k = (idx? m k).map (·.2) := by
  induction m with
  | nil => rfl
  | cons p m ih => simp only [assoc, idx?]; split <;> simp [ih]; cases idx? m k <;> simp
theorem assoc_upd (m : List (κ × α)) (k : κ) (v : α) (j : κ) : assoc (upd m k v) j = if j = k then some v else assoc m j := by
  induction m with
  | nil => simp only [upd, assoc]; by_cases h : k = j <;> simp [h, eq_comm]
  | cons p m ih =>
    by_cases hp : p.1 = k
    · by_cases h : j = k
      · simp [upd, assoc, hp, h]
      · have h' : ¬ k = j := fun e => h e.symm
        simp [upd, assoc, hp, h, h']
    · by_cases h : p.1 = j
      · have : ¬ j = k := fun e => hp (h.trans e)
        simp [upd, assoc, hp, h, this]
      · simp [upd, assoc, hp, h, ih]
theorem assoc_none {m : List (κ × α)} {k : κ} : assoc m k = none ↔ k ∉ m.map (·.1) := by
  induction m with
  | nil => simp [assoc]
  | cons p m ih =>
    simp only [assoc, List.map_cons, List.mem_cons, not_or]
    split
    · rename_i h; simp [h]
    · rename_i h; rw [ih]; exact ⟨fun hm => ⟨fun e => h e.symm, hm⟩, fun hm => hm.2⟩
theorem assoc_mem {m : List (κ × α)} {k : κ} {v : α} (h : assoc m k = some v) : (k, v) ∈ m := by
  induction m with
  | nil => simp [assoc] at h
  | cons p m ih =>
    simp only [assoc] at h
    split at h
    · rename_i he; simp at h; subst h; subst he; exact List.mem_cons_self ..
    · exact List.mem_cons_of_mem _ (ih h)
theorem assoc_of_mem {m : List (κ × α)} (hn : (m.map (·.1)).Nodup) {k : κ} {v : α} (h : (k, v) ∈ m) : assoc m k = some v := by
  induction m with
  | nil => cases h
  | cons p m ih =>
    rcases List.mem_cons.1 h with rfl | h
    · simp [assoc]
    · simp only [List.map_cons, List.nodup_cons] at hn
      have : p.1 ≠ k := fun e => hn.1 (List.mem_map.2 ⟨_, h, e.symm⟩)
      simp [assoc, this, ih hn.2 h]
theorem assoc_del (m : List (κ × α)) (k j : κ) : assoc (del m k) j = if j = k then none else assoc m j := by
  induction m with
  | nil => simp [del, assoc]
  | cons p m ih =>
    by_cases hp : p.1 = k
    · have : del (p :: m) k = del m k := by simp [del, hp]
      rw [this, ih]
      by_cases h : j = k
      · simp [h]
      · have : ¬ p.1 = j := fun e => h (e.symm.trans hp)
        simp [h, assoc, this]
    · have : del (p :: m) k = p :: del m k := by simp [del, hp]
      rw [this]
      by_cases h : p.1 = j
      · have : ¬ j = k := fun e => hp (h.trans e)
        simp [assoc, h, this]
      · simp [assoc, h, ih]
theorem upd_keys (m : List (κ × α)) (k : κ) (v : α) : (upd m k v).map (·.1) = if k ∈ m.map (·.1) then m.map (·.1) else m.map (·.1) ++ [k] := by
  induction m with
  | nil => simp [upd]
  | cons p m ih =>
    by_cases hp : p.1 = k
    · simp [upd, hp]
    · have hp' : ¬ k = p.1 := fun e => hp e.symm
      simp only [upd, hp, if_false, List.map_cons, ih, List.mem_cons, hp', false_or]
      split <;> simp
theorem upd_nodup {m : List (κ × α)} (hn : (m.map (·.1)).Nodup) (k : κ) (v : α) : ((upd m k v).map (·.1)).Nodup := by
  rw [upd_keys]
  split
  · exact hn
  · rename_i h
    rw [List.nodup_append]
    exact ⟨hn, by simp, fun a ha b hb => by simp at hb; subst hb; exact fun e => h (e ▸ ha)⟩
theorem del_nodup {m : List (κ × α)} (hn : (m.map (·.1)).Nodup) (k : κ) : ((del m k).map (·.1)).Nodup := by
  unfold del
  exact hn.sublist ((List.filter_sublist).map _)
theorem idx_none {m : List (κ × α)} {k : κ} : idx? m k = none ↔ k ∉ m.map (·.1) := by rw [← assoc_none, assoc_idx]; cases idx? m k <;> simp
theorem upd_new {m : List (κ × α)} {k : κ} (h : idx? m k = none) (v : α) : upd m k v = m ++ [(k, v)] := by
  induction m with
  | nil => rfl
  | cons p m ih =>
    simp only [idx?] at h
    split at h
    · cases h
    · rename_i hp
      simp only [upd, hp, if_false, List.cons_append, List.cons.injEq, true_and]
      exact ih (by cases hi : idx? m k with | none => rfl | some q => rw [hi] at h; cases h)
theorem upd_at {m : List (κ × α)} {k : κ} {i : Nat} {u : α} (h : idx? m k = some (i, u)) (v : α) : upd m k v = m.set i (k, v) ∧ i < m.length ∧ (m[i]?).map (·.1) = some k := by
  induction m generalizing i with
  | nil => cases h
  | cons p m ih =>
    simp only [idx?] at h
    split at h
    · rename_i hp; simp at h; obtain ⟨rfl, rfl⟩ := h; simp [upd, hp]
    · rename_i hp
      cases hi : idx? m k with
      | none => rw [hi] at h; cases h
      | some q =>
        obtain ⟨i', u'⟩ := q
        rw [hi] at h; simp at h; obtain ⟨rfl, rfl⟩ := h
        have := ih hi
        refine ⟨by simp [upd, hp, this.1], by simpa using this.2.1, by simpa using this.2.2⟩
theorem del_new {m : List (κ × α)} {k : κ} (h : idx? m k = none) : del m k = m := by
  rw [idx_none] at h
  unfold del
  rw [List.filter_eq_self]
  intro p hp
  simp
  exact fun e => h (List.mem_map.2 ⟨p, hp, e⟩)
theorem del_at {m : List (κ × α)} (hn : (m.map (·.1)).Nodup) {k : κ} {i : Nat} {u : α} (h : idx? m k = some (i, u)) : del m k = m.eraseIdx i := by
  induction m generalizing i with
  | nil => cases h
  | cons p m ih =>
    simp only [List.map_cons, List.nodup_cons] at hn
    simp only [idx?] at h
    split at h
    · rename_i hp; simp at h; obtain ⟨rfl, rfl⟩ := h
      have : del (p :: m) k = del m k := by simp [del, hp]
      rw [this, del_new (idx_none.2 (hp ▸ hn.1))]; rfl
    · rename_i hp
      cases hi : idx? m k with
      | none => rw [hi] at h; cases h
      | some q =>
        obtain ⟨i', u'⟩ := q
        rw [hi] at h; simp at h; obtain ⟨rfl, rfl⟩ := h
        have : del (p :: m) k = p :: del m k := by simp [del, hp]
        rw [this, ih hn.2 hi]; rfl
end

/-- What a type of keys must do. -/
structure KeyOK {κ : Type} [DecidableEq κ] (P : Program) (kt : TypeId) (enc : κ → Value) : Prop where
  check : ∀ b k w, (Instr.checkKey b 10000 kt (enc k)).run P w = .ok () w
  find : ∀ {α : Type} (encV : α → Value) (m : List (κ × α)) (es : List MapEntry), es.map (fun e => (e.key, e.val)) = m.map (fun p => (enc p.1, encV p.2)) → ∀ k w,
    (Instr.findKey kt (enc k) es).run P w = .ok ((idx? m k).map fun q => (q.1, encV q.2)) w
  same : ∀ k, Instr.sameBits 10000 (enc k) (enc k) = true

def ik (k : Int) : Value := .int .i64 k
theorem findNow_ints {α : Type} (encV : α → Value) : ∀ (m : List (Int × α)) (es : List MapEntry) (k : Int) (i : Nat), es.map (fun e => (e.key, e.val)) = m.map (fun p => (ik p.1, encV p.2)) →
    Instr.findNow (.int .i64) (ik k) es i = some ((idx? m k).map fun q => (q.1 + i, encV q.2))
  | [], es, k, i, h => by simp at h; subst h; rfl
  | p :: m, [], k, i, h => by simp at h
  | p :: m, e :: es, k, i, h => by
    simp only [List.map_cons, List.cons.injEq, Prod.mk.injEq] at h
    obtain ⟨⟨hk, hv⟩, h⟩ := h
    simp only [Instr.findNow, hk, idx?]
    by_cases hp : p.1 = k
    · simp [Instr.sameNow, ik, hp, hv]
    · have hp' : (k == p.1) = false := by simp; exact fun e => hp e.symm
      simp only [Instr.sameNow, ik, if_true, hp', hp, if_false]
      have := findNow_ints encV m es k (i + 1) h
      simp only [ik] at this
      rw [this]
      cases idx? m k with
      | none => rfl
      | some q => simp; omega
theorem keyOK_int {P : Program} {kt : TypeId} (h : P.underlying kt = some (.int .i64)) : KeyOK P kt ik where
  check := by
    intro b k w
    unfold Instr.checkKey
    simp [Sem.run_bind, run_underlying' h, ik, Sem.run_pure]
  find := by
    intro α encV m es hm k w
    unfold Instr.findKey
    simp only [Sem.run_bind, run_underlying' h, Result.andThen_ok, findNow_ints encV m es k 0 hm]
    simp [Sem.run_pure]
  same := by intro k; simp [Instr.sameBits, ik]

section
variable {κ α : Type} {encK : κ → Value} {encV : α → Value}
/-- A map's entries, as a list of keys and values. -/
structure Entries (encK : κ → Value) (encV : α → Value) (es : Array MapEntry) (clk : Nat) (m : List (κ × α)) : Prop where
  list : es.toList.map (fun e => (e.key, e.val)) = m.map (fun p => (encK p.1, encV p.2))
  keys : (m.map (·.1)).Nodup
  born : (es.toList.map (·.born)).Nodup
  clock : ∀ e ∈ es.toList, e.born < clk
def MapL (encK : κ → Value) (encV : α → Value) (b : Nat) (m : List (κ × α)) (x : Part) : Prop := ∃ es clk, x = pt b (.map es clk) ∧ Entries encK encV es clk m
theorem Entries.size {es : Array MapEntry} {clk : Nat} {m : List (κ × α)} (h : Entries encK encV es clk m) : es.size = m.length := by
  have := congrArg List.length h.list
  simpa using this
theorem mapL_new (b : Nat) : MapL encK encV b [] (pt b (.map #[] 0)) := ⟨#[], 0, rfl, rfl, by simp, by simp, by simp⟩
theorem Entries.upd [DecidableEq κ] {es : Array MapEntry} {clk : Nat} {m : List (κ × α)} (h : Entries encK encV es clk m) (k : κ) (v : α) :
    (∀ i u, idx? m k = some (i, u) → Entries encK encV (es.modify i fun e => { e with key := encK k, val := encV v }) clk (upd m k v)) ∧
    (idx? m k = none → Entries encK encV (es.push { key := encK k, val := encV v, born := clk }) (clk + 1) (upd m k v)) := by
  constructor
  · intro i u hi
    obtain ⟨h1, h2, h3⟩ := upd_at hi v
    refine ⟨?_, upd_nodup h.keys k v, ?_, ?_⟩
    · rw [h1]
      apply List.ext_getElem?
      intro j
      have hl := congrArg (·[j]?) h.list
      simp only [List.getElem?_map] at hl ⊢
      rw [Array.toList_modify, List.getElem?_modify, List.getElem?_set]
      by_cases hj : i = j
      · subst hj
        have hlt : i < es.size := by rw [h.size]; exact h2
        simp [h2, hlt]
      · simp only [if_neg hj]
        simpa using hl
    · have : (es.modify i fun e => { e with key := encK k, val := encV v }).toList.map (·.born) = es.toList.map (·.born) := by
        apply List.ext_getElem?
        intro j
        simp only [List.getElem?_map]
        rw [Array.toList_modify, List.getElem?_modify]
        by_cases hj : i = j
        · subst hj; cases h4 : es.toList[i]? <;> simp [h4]
        · simp [if_neg hj]
      rw [this]; exact h.born
    · intro e he
      rw [Array.toList_modify] at he
      obtain ⟨j, hj⟩ := List.getElem?_of_mem he
      rw [List.getElem?_modify] at hj
      cases h4 : es.toList[j]? with
      | none => rw [h4] at hj; simp at hj
      | some e0 =>
        have h5 := h.clock e0 (List.mem_of_getElem? h4)
        rw [h4] at hj
        by_cases hij : i = j
        · subst hij; simp at hj; subst hj; exact h5
        · simp [hij] at hj; subst hj; exact h5
  · intro hi
    refine ⟨?_, upd_nodup h.keys k v, ?_, ?_⟩
    · rw [upd_new hi v]; simp [h.list]
    · simp only [Array.toList_push, List.map_append, List.map_cons, List.map_nil]
      rw [List.nodup_append]
      refine ⟨h.born, by simp, ?_⟩
      intro a ha b hb
      simp at hb
      obtain ⟨e, he, rfl⟩ := List.mem_map.1 ha
      have := h.clock e he
      omega
    · intro e he
      rw [Array.toList_push] at he
      rcases List.mem_append.1 he with he | he
      · have := h.clock e he; omega
      · simp at he; subst he; simp
theorem map_eraseIdx' {β γ : Type} (f : β → γ) : ∀ (l : List β) (i : Nat), (l.eraseIdx i).map f = (l.map f).eraseIdx i
  | [], _ => by simp
  | a :: l, 0 => by simp
  | a :: l, i + 1 => by simp [map_eraseIdx' f l i]
theorem Entries.del [DecidableEq κ] {es : Array MapEntry} {clk : Nat} {m : List (κ × α)} (h : Entries encK encV es clk m) (k : κ) :
    (∀ i u, idx? m k = some (i, u) → Entries encK encV (es.eraseIdxIfInBounds i) clk (del m k)) ∧ (idx? m k = none → Entries encK encV es clk (del m k)) := by
  constructor
  · intro i u hi
    have h1 := del_at h.keys hi
    have h2 := (upd_at hi u).2.1
    have hlt : i < es.size := by rw [h.size]; exact h2
    have ht : (es.eraseIdxIfInBounds i).toList = es.toList.eraseIdx i := by
      simp [Array.eraseIdxIfInBounds, hlt, Array.toList_eraseIdx]
    refine ⟨?_, del_nodup h.keys k, ?_, ?_⟩
    · rw [ht, h1, map_eraseIdx', map_eraseIdx', h.list]
    · rw [ht, map_eraseIdx']; exact h.born.sublist (List.eraseIdx_sublist ..)
    · intro e he; rw [ht] at he; exact h.clock e (List.mem_of_mem_eraseIdx he)
  · intro hi; rw [del_new hi]; exact h

variable {P : Program} {R L : List Part} {l : List (Nat × Value)} {ty : TypeId} {e : Env}
def MapIn (encK : κ → Value) (encV : α → Value) (R : List Part) (b : Nat) (m : List (κ × α)) : Prop := ∃ x ∈ R, MapL encK encV b m x
theorem MapIn.mono {R' : List Part} {b : Nat} {m : List (κ × α)} (h : MapIn encK encV R b m) (hs : ∀ x ∈ R, x ∈ R') : MapIn encK encV R' b m := by obtain ⟨x, hx, h⟩ := h; exact ⟨x, hs x hx, h⟩
theorem run_getObj_map {P : Program} {w : World} {b : Nat} {es : Array MapEntry} {clk : Nat} (h : w.heap[b]? = some (.map es clk)) : (getObj b).run P w = .ok (.map es clk) w := by
  simp [getObj, Sem.run, h]
theorem run_setObj_map {P : Program} {w : World} {b : Nat} {es : Array MapEntry} {clk : Nat} (o : Obj) (h : w.heap[b]? = some (.map es clk)) : (setObj b o).run P w = .ok () { w with heap := w.heap.setIfInBounds b o } := by
  simp [setObj, Sem.run, h]
theorem run_zero {t : TypeId} {z : Value} (hz : (P.info? t).map (·.zero) = some (some z)) (w : World) : (zeroValue t).run P w = .ok z w := by
  obtain ⟨i, hi, hn⟩ := Option.map_eq_some_iff.1 hz
  simp [zeroValue, typeInfo, program, Sem.run_bind, Sem.run, Result.andThen, hi, hn, pure]
theorem run_lookup [DecidableEq κ] {t kt et : TypeId} (hk : KeyOK P kt encK) (hu : P.underlying t = some (.map kt et)) {z : Value} (hz : (P.info? et).map (·.zero) = some (some z)) {b : Nat} {m : List (κ × α)} (hm : MapIn encK encV R b m) (k : κ) (ok : Bool) {w : World} (hw : HasAll w R) :
    (Instr.lookup t (.map (some b)) (encK k) ok).run P w = .ok (if ok then .tuple #[((assoc m k).map encV).getD z, .bool (assoc m k).isSome] else ((assoc m k).map encV).getD z) w := by
  obtain ⟨x, hx, es, clk, rfl, hE⟩ := hm
  have hb : w.heap[b]? = some (.map es clk) := hw _ hx b _ (pt_self b _)
  unfold Instr.lookup
  simp only [Sem.run_bind, run_underlying' hu, Result.andThen_ok, run_getObj_map hb, Sem.run_pure, hk.check, hk.find encV m es.toList hE.list]
  rw [assoc_idx]
  cases hi : idx? m k with
  | none => simp [Sem.run_bind, run_zero hz, Sem.run_pure]
  | some q => simp [Sem.run_bind, Sem.run_pure]
theorem yl_lookup [DecidableEq κ] {t kt et : TypeId} (hk : KeyOK P kt encK) (hu : P.underlying t = some (.map kt et)) {z : Value} (hz : (P.info? et).map (·.zero) = some (some z)) {x y : Operand} {b : Nat} {m : List (κ × α)} {k : κ} (hx : ev l x = some (.map (some b))) (hy : ev l y = some (encK k)) (hm : MapIn encK encV R b m) :
    Yl P R l (.lookup t x y false) ty (((assoc m k).map encV).getD z) := by
  intro a w ha hw dst pos after guard
  simp only [execOp, ha.ev hx, ha.ev hy, Sem.run_bind, run_lookup hk hu hz hm k false hw]
  simp [Sem.run_pure]
theorem yl_lookupOk [DecidableEq κ] {t kt et : TypeId} (hk : KeyOK P kt encK) (hu : P.underlying t = some (.map kt et)) {z : Value} (hz : (P.info? et).map (·.zero) = some (some z)) {x y : Operand} {b : Nat} {m : List (κ × α)} {k : κ} (hx : ev l x = some (.map (some b))) (hy : ev l y = some (encK k)) (hm : MapIn encK encV R b m) :
    Yl P R l (.lookup t x y true) ty (.tuple #[((assoc m k).map encV).getD z, .bool (assoc m k).isSome]) := by
  intro a w ha hw dst pos after guard
  simp only [execOp, ha.ev hx, ha.ev hy, Sem.run_bind, run_lookup hk hu hz hm k true hw]
  simp [Sem.run_pure]
theorem yl_lookupE [DecidableEq κ] {t kt et : TypeId} (hk : KeyOK P kt encK) (hu : P.underlying t = some (.map kt et)) {z : Value} (hz : (P.info? et).map (·.zero) = some (some z)) {x y : Operand} {b : Nat} {m : List (κ × α)} {k : κ} (hx : ev l x = some (.map (some b))) (hy : ev l y = some (encK k)) (hm : MapIn encK encV R b m) {v : Value} (hv : ((assoc m k).map encV).getD z = v) :
    Yl P R l (.lookup t x y false) ty v := hv ▸ yl_lookup hk hu hz hx hy hm
theorem yl_lookupOkE [DecidableEq κ] {t kt et : TypeId} (hk : KeyOK P kt encK) (hu : P.underlying t = some (.map kt et)) {z : Value} (hz : (P.info? et).map (·.zero) = some (some z)) {x y : Operand} {b : Nat} {m : List (κ × α)} {k : κ} (hx : ev l x = some (.map (some b))) (hy : ev l y = some (encK k)) (hm : MapIn encK encV R b m) {v : Value} {ok : Bool} (hv : ((assoc m k).map encV).getD z = v) (ho : (assoc m k).isSome = ok) :
    Yl P R l (.lookup t x y true) ty (.tuple #[v, .bool ok]) := by
  subst hv; subst ho; exact yl_lookupOk hk hu hz hx hy hm
theorem yl_lenMap {t kt et : TypeId} (hu : P.underlying t = some (.map kt et)) {x : Operand} {b : Nat} {m : List (κ × α)} (hx : ev l x = some (.map (some b))) (hm : MapIn encK encV R b m) : Yl P R l (.call ⟨.builtin .len, #[x], #[t]⟩) ty (.int .i64 m.length) := by
  intro a w ha hw dst pos after guard
  obtain ⟨x', hx', es, clk, rfl, hE⟩ := hm
  have hb : w.heap[b]? = some (.map es clk) := hw _ hx' b _ (pt_self b _)
  simp [execOp, resolve, invoke, builtin, Builtin.len_, ha.ev hx, Sem.run_bind, Sem.run_pure, run_underlying' hu, goInt, run_getObj_map hb, hE.size]
theorem ef_mapUpdate [DecidableEq κ] {t kt et : TypeId} (hk : KeyOK P kt encK) (hu : P.underlying t = some (.map kt et)) {x y z : Operand} {b : Nat} {m : List (κ × α)} {k : κ} {v : α} (hx : ev l x = some (.map (some b))) (hy : ev l y = some (encK k)) (hz : ev l z = some (encV v)) {X : Part} (hm : MapL encK encV b m X) :
    EfS P e l (.mapUpdate t x y z) ty (X :: L) R (fun L' => ∃ X', MapL encK encV b (upd m k v) X' ∧ L' = X' :: L) := by
  intro a w ha hT dst pos after guard
  obtain ⟨es, clk, rfl, hE⟩ := hm
  have hb : w.heap[b]? = some (.map es clk) := hT.head b _ (pt_self b _)
  simp only [execOp, ha.ev hx, ha.ev hy, ha.ev hz, Instr.mapUpdate]
  simp only [Sem.run_bind, run_underlying' hu, Result.andThen_ok, run_getObj_map hb, hk.check, hk.find encV m es.toList hE.list]
  cases hi : idx? m k with
  | none =>
    refine ⟨_, _, ?_, ⟨_, ⟨_, _, rfl, (hE.upd k v).2 hi⟩, rfl⟩, hT.put _⟩
    simp [Option.map_none, run_setObj_map _ hb, Sem.run_pure]
  | some q =>
    obtain ⟨i, u⟩ := q
    obtain ⟨h1, h2, h3⟩ := upd_at hi v
    have hlt : i < es.size := by rw [hE.size]; exact h2
    have hkey : ((es[i]?).map (·.key)).getD (encK k) = encK k := by
      have hl := congrArg (·[i]?) hE.list
      simp only [List.getElem?_map] at hl
      obtain ⟨p, hp, hpk⟩ := Option.map_eq_some_iff.1 h3
      rw [hp] at hl
      simp [hlt] at hl
      simp [hlt, hl.1, hpk]
    refine ⟨_, _, ?_, ⟨_, ⟨_, _, rfl, (hE.upd k v).1 i u hi⟩, rfl⟩, hT.put _⟩
    simp only [Option.map_some, Sem.run_bind, hkey, Instr.keyThatStays, hk.same, if_true, Sem.run_pure, Result.andThen_ok]
    rw [run_setObj_map _ hb]
    rfl
theorem ef_delete [DecidableEq κ] {t kt et tk : TypeId} (hk : KeyOK P kt encK) (hu : P.underlying t = some (.map kt et)) {x y : Operand} {b : Nat} {m : List (κ × α)} {k : κ} (hx : ev l x = some (.map (some b))) (hy : ev l y = some (encK k)) {X : Part} (hm : MapL encK encV b m X) :
    Ef P e l (.call ⟨.builtin .delete, #[x, y], #[t, tk]⟩) ty (X :: L) R (fun _ L' => ∃ X', MapL encK encV b (del m k) X' ∧ L' = X' :: L) := by
  intro a w ha hT dst pos after guard
  obtain ⟨es, clk, rfl, hE⟩ := hm
  have hb : w.heap[b]? = some (.map es clk) := hT.head b _ (pt_self b _)
  simp only [execOp, resolve, invoke, builtin, Builtin.delete_]
  cases hi : idx? m k with
  | none =>
    refine ⟨.tuple #[], _, _, ?_, ⟨_, ⟨_, _, rfl, (hE.del k).2 hi⟩, rfl⟩, hT.put _⟩
    simp [ha.ev hx, ha.ev hy, Sem.run_bind, run_underlying' hu, run_getObj_map hb, hk.check, hk.find encV m es.toList hE.list, hi, run_setObj_map _ hb, Sem.run_pure]
  | some q =>
    obtain ⟨i, u⟩ := q
    refine ⟨.tuple #[], _, _, ?_, ⟨_, ⟨_, _, rfl, (hE.del k).1 i u hi⟩, rfl⟩, hT.put _⟩
    simp [ha.ev hx, ha.ev hy, Sem.run_bind, run_underlying' hu, run_getObj_map hb, hk.check, hk.find encV m es.toList hE.list, hi, run_setObj_map _ hb, Sem.run_pure]
end
end Go.Proofs.Ytjhbgciocffihaa
