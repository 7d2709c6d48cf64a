/-
  Own words, part 0: partial heaps that are kept apart ('Part', 'Tot'); what is known of a frame's slots ('Fr'); a region of operations carried out by a plan ('Plan'), whatever order the tape draws.
-/
import Derived.OrdersIn
import Derived.RangeFuncIn
import Derived.RangeFuncLeaves
import Derived.KernelRfl
import Derived.Laws.World
set_option linter.unusedVariables false
set_option linter.unusedSimpArgs false
namespace Go.Proofs.Ytjhbgciocffihaa

/-! ### 0. No run draws backwards -/
theorem ask_drawn {α : Type} : ∀ (a : Ask α) (w : World), w.drawn ≤ (w.ask a).2.drawn
  | .done a, w => Nat.le_refl _
  | .ask what range k, w => by
    unfold World.ask
    simp only
    split
    · exact ask_drawn _ w
    · exact Nat.le_trans (Nat.le_succ _) (ask_drawn _ { w with drawn := w.drawn + 1 })
theorem sys_drawn (w : World) (c : Sys) : w.drawn ≤ (w.sys c).2.drawn := by
  have h := ask_drawn (Kernel.perform c w.os) w
  unfold World.sys
  split
  · exact Nat.le_refl _
  · rename_i heq; rw [heq] at h; exact h
theorem farStore_drawn {P : Program} {w w' : World} {a : Addr} {v : Value} {at_ : Bool} {l : List Addr} (h : w.farStore P a v at_ = .ok (w', l)) : w'.drawn = w.drawn := by
  unfold World.farStore at h
  split at h
  · split at h
    · rename_i r hr
      cases h
      simp only [World.viewStore, bind, Except.bind, pure, Except.pure] at hr
      repeat' split at hr
      all_goals first | (cases hr; done) | (cases hr; rfl) | skip
    · cases h
  · cases h
theorem run_drawn {P : Program} {α : Type} : ∀ (s : Sem α) (w w' : World) (v : α), s.run P w = .ok v w' → w.drawn ≤ w'.drawn
  | .pure a, w, w', v, h => by simp [Sem.run] at h; rw [← h.2]; exact Nat.le_refl _
  | .load m a k, w, w', v, h => by
    unfold Sem.run at h
    split at h
    · exact run_drawn _ _ _ _ h
    · split at h
      · exact run_drawn _ _ _ _ h
      · cases h
  | .store m a u k, w, w', v, h => by
    cases u <;> unfold Sem.run at h <;> first
      | (cases h; done)
      | (split at h
         · split at h
           · cases h
           · have h2 := run_drawn k _ _ _ h
             rwa [World.drawn_setCell] at h2
         · split at h
           · rename_i hf; rw [← farStore_drawn hf]; exact run_drawn k _ _ _ h
           · cases h)
  | .new o k, w, w', v, h => run_drawn (k w.heap.size) { w with heap := w.heap.push o } w' v h
  | .shape r k, w, w', v, h => run_drawn (k (w.shape? r)) w w' v h
  | .freeze a n k, w, w', v, h => by
    have h1 : (w.freeze a n).drawn = w.drawn := by unfold World.freeze; first | rfl | (split <;> rfl)
    have h2 := run_drawn k (w.freeze a n) w' v h
    omega
  | .frozen a k, w, w', v, h => run_drawn (k (w.frozen? a)) w w' v h
  | .getObj r k, w, w', v, h => by
    unfold Sem.run at h
    split at h
    · cases h
    · exact run_drawn _ _ _ _ h
    · cases h
  | .setObj r o k, w, w', v, h => by
    unfold Sem.run at h
    split at h
    · cases h
    · exact run_drawn k { w with heap := w.heap.setIfInBounds r o } _ _ h
    · cases h
  | .choose q k, w, w', v, h => by
    unfold Sem.run at h
    split at h
    · exact run_drawn _ _ _ _ h
    · exact Nat.le_trans (Nat.le_succ _) (run_drawn (k _) { w with drawn := w.drawn + 1 } _ _ h)
  | .sys c k, w, w', v, h => Nat.le_trans (sys_drawn w c) (run_drawn (k (w.sys c).1) (w.sys c).2 w' v h)
  | .program k, w, w', v, h => run_drawn (k P) w w' v h
  | .mark m k, w, w', v, h => run_drawn k w w' v h
  | .halt e, w, w', v, h => by simp [Sem.run] at h

/-! ### 1. Partial heaps -/
abbrev Part := Nat → Option Obj
def pt (b : Nat) (o : Obj) : Part := fun k => if k = b then some o else none
theorem pt_self (b : Nat) (o : Obj) : pt b o b = some o := by simp [pt]
def Has (w : World) (x : Part) : Prop := ∀ k o, x k = some o → w.heap[k]? = some o
def Apart (x y : Part) : Prop := ∀ k, x k = none ∨ y k = none
theorem Apart.symm {x y : Part} (h : Apart x y) : Apart y x := fun k => (h k).symm

structure Env where
  os : Os
  tape : Nat → Question → Nat
  output : Array (Nat × ByteArray)
  dr : Nat

structure Tot (e : Env) (w : World) (L : List Part) : Prop where
  os : w.os = e.os
  tape : w.tape = e.tape
  output : w.output = e.output
  dr : e.dr ≤ w.drawn
  has : ∀ x ∈ L, Has w x
  apart : L.Pairwise Apart

def HasAll (w : World) (L : List Part) : Prop := ∀ x ∈ L, Has w x

section
variable {e : Env} {w : World} {L L' R : List Part} {x y : Part}
theorem Tot.perm (h : Tot e w L) (hp : L.Perm L') : Tot e w L' :=
  ⟨h.os, h.tape, h.output, h.dr, fun x hx => h.has x (hp.mem_iff.2 hx), (hp.pairwise_iff (fun h => h.symm)).1 h.apart⟩
theorem Tot.sub (h : Tot e w L) (hp : L'.Sublist L) : Tot e w L' :=
  ⟨h.os, h.tape, h.output, h.dr, fun x hx => h.has x (hp.subset hx), h.apart.sublist hp⟩
theorem Tot.tail (h : Tot e w (x :: L)) : Tot e w L := h.sub (List.sublist_cons_self ..)
theorem Tot.right (h : Tot e w (L ++ R)) : Tot e w R := h.sub (List.sublist_append_right ..)
theorem Tot.left (h : Tot e w (L ++ R)) : Tot e w L := h.sub (List.sublist_append_left ..)
theorem Tot.all (h : Tot e w L) : HasAll w L := h.has
theorem Tot.allR (h : Tot e w (L ++ R)) : HasAll w R := fun x hx => h.has x (List.mem_append_right _ hx)
theorem Tot.head (h : Tot e w (x :: L)) : Has w x := h.has x (List.mem_cons_self ..)
theorem Tot.swap (h : Tot e w (L ++ R)) : Tot e w (R ++ L) := h.perm List.perm_append_comm

theorem Tot.emp (h : Tot e w L) : Tot e w ((fun _ => none) :: L) := by
  refine ⟨h.os, h.tape, h.output, h.dr, fun x hx => ?_, List.pairwise_cons.2 ⟨fun _ _ _ => .inl rfl, h.apart⟩⟩
  rcases List.mem_cons.1 hx with rfl | hx
  · intro k o hk; cases hk
  · exact h.has x hx
def bring : Nat → List Part → List Part
  | 0, l => l
  | _ + 1, [] => []
  | n + 1, x :: l => match bring n l with
    | [] => [x]
    | y :: r => y :: x :: r
theorem bring_perm : ∀ (n : Nat) (l : List Part), l.Perm (bring n l)
  | 0, l => .refl l
  | n + 1, [] => .refl _
  | n + 1, x :: l => by
    have h := bring_perm n l
    simp only [bring]
    split
    · rename_i h2; rw [h2] at h; rw [h.eq_nil]
    · rename_i y r h2; rw [h2] at h; exact (h.cons x).trans (.swap ..)
theorem Tot.bring (h : Tot e w L) (n : Nat) : Tot e w (bring n L) := h.perm (bring_perm n L)
def brings : List Nat → List Part → List Part
  | [], l => l
  | n :: ns, l => brings ns (Ytjhbgciocffihaa.bring n l)
theorem Tot.brings (h : Tot e w L) (ns : List Nat) : Tot e w (brings ns L) := by
  induction ns generalizing L with
  | nil => exact h
  | cons n ns ih => exact ih (h.bring n)

theorem Has.lt (h : Has w x) {k : Nat} {o : Obj} (hk : x k = some o) : k < w.heap.size := (Array.getElem?_eq_some_iff.1 (h k o hk)).1
theorem Has.apart_new (h : Has w x) (o : Obj) : Apart (pt w.heap.size o) x := fun k => by
  by_cases hk : k = w.heap.size
  · right
    cases hx : x k with
    | none => rfl
    | some o' => have := h.lt hx; omega
  · left; simp [pt, hk]
theorem Tot.alloc (h : Tot e w L) (o : Obj) : Tot e (w.alloc o) (pt w.heap.size o :: L) := by
  refine ⟨h.os, h.tape, h.output, h.dr, ?_, ?_⟩
  · intro x hx
    rcases List.mem_cons.1 hx with rfl | hx
    · intro k o' hk
      by_cases e : k = w.heap.size
      · subst e; simp [pt] at hk; subst hk; show (w.heap.push o)[w.heap.size]? = some o; simp
      · simp [pt, e] at hk
    · intro k o' hk
      have := (h.has x hx).lt hk
      have h2 := h.has x hx k o' hk
      show (w.heap.push o)[k]? = some o'
      rw [Array.getElem?_push_lt this, ← Array.getElem?_eq_getElem this]
      exact h2
  · exact List.pairwise_cons.2 ⟨fun x hx => (h.has x hx).apart_new o, h.apart⟩
theorem Tot.heap {H : Array Obj} (h : Tot e w (x :: L)) (hH : ∀ y ∈ L, Has w y → Has { w with heap := H } y) (hx : Has { w with heap := H } y) (hd : ∀ k, x k = none → y k = none) :
    Tot e { w with heap := H } (y :: L) := by
  refine ⟨h.os, h.tape, h.output, h.dr, ?_, ?_⟩
  · intro z hz
    rcases List.mem_cons.1 hz with rfl | hz
    · exact hx
    · exact hH z hz (h.has z (List.mem_cons_of_mem _ hz))
  · have h2 := List.pairwise_cons.1 h.apart
    exact List.pairwise_cons.2 ⟨fun z hz k => (h2.1 z hz k).imp (hd k) id, h2.2⟩
theorem Tot.drew (h : Tot e w L) : Tot e { w with drawn := w.drawn + 1 } L := ⟨h.os, h.tape, h.output, Nat.le_succ_of_le h.dr, h.has, h.apart⟩
/-- The object of one block is turned. -/
theorem Tot.put {b : Nat} {o : Obj} (h : Tot e w (pt b o :: L)) (o' : Obj) : Tot e { w with heap := w.heap.setIfInBounds b o' } (pt b o' :: L) := by
  have hb := h.head b o (pt_self b o)
  have hlt := (Array.getElem?_eq_some_iff.1 hb).1
  have h2 := List.pairwise_cons.1 h.apart
  refine ⟨h.os, h.tape, h.output, h.dr, ?_, List.pairwise_cons.2 ⟨fun z hz k => ?_, h2.2⟩⟩
  · intro z hz k o2 hk
    rcases List.mem_cons.1 hz with rfl | hz
    · by_cases hkb : k = b
      · subst hkb; simp [pt] at hk; subst hk; simp [hlt]
      · simp [pt, hkb] at hk
    · have hne : b ≠ k := by
        rintro rfl
        rcases h2.1 z hz b with h3 | h3
        · simp [pt] at h3
        · rw [h3] at hk; cases hk
      rw [show ({ w with heap := w.heap.setIfInBounds b o' } : World).heap[k]? = w.heap[k]? from Array.getElem?_setIfInBounds_ne hne]
      exact h.has z (List.mem_cons_of_mem _ hz) k o2 hk
  · refine (h2.1 z hz k).imp (fun h3 => ?_) id
    by_cases hkb : k = b
    · subst hkb; simp [pt] at h3
    · simp [pt, hkb]
theorem Tot.setCell {b off : Nat} {cs : Array Value} {T : TypeId} {fz : Nat × Nat} (h : Tot e w (pt b (.cells cs T fz) :: L)) (v : Value) :
    Tot e (w.setCell ⟨b, off, none⟩ v) (pt b (.cells (cs.setIfInBounds off v) T fz) :: L) := by
  have hb := h.head b _ (pt_self b _)
  have hlt := (Array.getElem?_eq_some_iff.1 hb).1
  have he : w.setCell ⟨b, off, none⟩ v = { w with heap := w.heap.setIfInBounds b (.cells (cs.setIfInBounds off v) T fz) } := by
    unfold World.setCell
    refine congrArg (fun H => ({ w with heap := H } : World)) (Array.ext (by simp) fun i h1 h2 => ?_)
    rw [Array.getElem_modify]
    by_cases hi : b = i
    · subst hi
      have : w.heap[b] = .cells cs T fz := (Array.getElem?_eq_some_iff.1 hb).2
      simp [this]
    · rw [Array.getElem_setIfInBounds (by simpa using h2)]
      simp [hi]
  rw [he]; exact h.put _
end

/-! ### 2. What is known of a frame -/
structure Fr (N : Nat) (l : List (Nat × Value)) (D : List Deferred) (a : Act) : Prop where
  size : a.tmps.size = N
  dfr : a.defers = D
  at_ : ∀ p ∈ l, a.tmps[p.1]? = some p.2

def lk : List (Nat × Value) → Nat → Option Value
  | [], _ => none
  | p :: l, t => bif Nat.beq p.1 t then some p.2 else lk l t
def er : List (Nat × Value) → Nat → List (Nat × Value)
  | [], _ => []
  | p :: l, t => bif Nat.beq p.1 t then er l t else p :: er l t
def ev (l : List (Nat × Value)) : Operand → Option Value
  | .tmp t => lk l t
  | .const v => some v
  | .global g => some (.pointer (some ⟨g, 0, none⟩))
  | .func f => some (.func (.func f) #[] #[])

theorem lk_mem : ∀ {l : List (Nat × Value)} {t : Nat} {v : Value}, lk l t = some v → (t, v) ∈ l
  | [], _, _, h => by simp [lk] at h
  | p :: l, t, v, h => by
    simp only [lk] at h
    cases hb : Nat.beq p.1 t with
    | true =>
      rw [hb] at h; simp at h
      have := Nat.eq_of_beq_eq_true hb
      subst this; subst h; exact List.mem_cons_self ..
    | false => rw [hb] at h; exact List.mem_cons_of_mem _ (lk_mem (by simpa using h))
theorem er_mem : ∀ {l : List (Nat × Value)} {t : Nat} {p : Nat × Value}, p ∈ er l t → p ∈ l ∧ p.1 ≠ t
  | [], _, _, h => by simp [er] at h
  | q :: l, t, p, h => by
    simp only [er] at h
    cases hb : Nat.beq q.1 t with
    | true => rw [hb] at h; have := er_mem (l := l) (by simpa using h); exact ⟨List.mem_cons_of_mem _ this.1, this.2⟩
    | false =>
      rw [hb] at h
      rcases List.mem_cons.1 (show p ∈ q :: er l t by simpa using h) with rfl | h
      · exact ⟨List.mem_cons_self .., Nat.ne_of_beq_eq_false hb⟩
      · have := er_mem h; exact ⟨List.mem_cons_of_mem _ this.1, this.2⟩
def Knows (l : List (Nat × Value)) (a : Act) : Prop := ∀ p ∈ l, a.tmps[p.1]? = some p.2
theorem Fr.knows {N : Nat} {l : List (Nat × Value)} {D : List Deferred} {a : Act} (h : Fr N l D a) : Knows l a := h.at_
theorem Knows.ev {l : List (Nat × Value)} {a : Act} (h : Knows l a) {x : Operand} {v : Value} (he : ev l x = some v) : a.eval x = v := by
  cases x with
  | tmp t => have := h _ (lk_mem (l := l) (t := t) he); simp [Act.eval, this]
  | const c => simp [Ytjhbgciocffihaa.ev] at he; exact he
  | global g => simp [Ytjhbgciocffihaa.ev] at he; exact he
  | func f => simp [Ytjhbgciocffihaa.ev] at he; exact he
theorem Fr.ev {N : Nat} {l : List (Nat × Value)} {D : List Deferred} {a : Act} (h : Fr N l D a) {x : Operand} {v : Value} (he : ev l x = some v) : a.eval x = v := h.knows.ev he
theorem Fr.put {N : Nat} {l : List (Nat × Value)} {D : List Deferred} {a : Act} (h : Fr N l D a) (d : Nat) (v : Value) (hd : d < N) : Fr N ((d, v) :: er l d) D (a.put (some d) v) := by
  refine ⟨by simp [Act.put, h.size], h.dfr, ?_⟩
  intro p hp
  rcases List.mem_cons.1 hp with rfl | hp
  · simp [Act.put, h.size, hd]
  · have := er_mem hp
    simp [Act.put, Array.getElem?_setIfInBounds_ne (Ne.symm this.2), h.at_ p this.1]
theorem Fr.sub {N : Nat} {l l' : List (Nat × Value)} {D : List Deferred} {a : Act} (h : Fr N l D a) (hs : ∀ p ∈ l', p ∈ l) : Fr N l' D a := ⟨h.size, h.dfr, fun p hp => h.at_ p (hs p hp)⟩
/-- The slots that are kept. -/
def sel (l : List (Nat × Value)) : List Nat → List (Nat × Value)
  | [] => []
  | t :: ts => match lk l t with
    | some v => (t, v) :: sel l ts
    | none => sel l ts
theorem sel_mem {l : List (Nat × Value)} : ∀ {ts : List Nat} {p : Nat × Value}, p ∈ sel l ts → p ∈ l
  | [], _, h => by simp [sel] at h
  | t :: ts, p, h => by
    simp only [sel] at h
    cases ht : lk l t with
    | none => rw [ht] at h; exact sel_mem h
    | some v =>
      rw [ht] at h
      rcases List.mem_cons.1 h with rfl | h
      · exact lk_mem ht
      · exact sel_mem h
theorem Fr.sel {N : Nat} {l : List (Nat × Value)} {D : List Deferred} {a : Act} (h : Fr N l D a) (ts : List Nat) {l' : List (Nat × Value)} (hl : sel l ts = l') : Fr N l' D a := by
  subst hl; exact h.sub fun p hp => sel_mem hp
theorem Fr.get {N : Nat} {l : List (Nat × Value)} {D : List Deferred} {a : Act} (h : Fr N l D a) {t : Nat} {v : Value} (hl : lk l t = some v) : a.tmps[t]? = some v := h.at_ _ (lk_mem hl)

/-! ### 3. Fences that let everything in -/
abbrev Fw (ro : Option Nat) : Fence := { fn := fun _ => True, depth := none, alive := false, round := ro }
theorem room_Fw (ro : Option Nat) (n : Nat) : (Fw ro).room n := fun _ h => by cases h
theorem callsIn_Fw {ro : Option Nat} {n : Nat} {P : Program} {f : FuncId} {args : Array Value} {w : World} {R : Ending → World → Prop} (h : Calls P f args w R) : CallsIn (Fw ro) n P f args w R :=
  (callsIn_wide (n := n)).2 h
theorem calls_of_Fw {n : Nat} {P : Program} {f : FuncId} {args : Array Value} {w : World} {R : Ending → World → Prop} (h : CallsIn (Fw none) n P f args w R) : Calls P f args w R :=
  (callsIn_wide (n := n)).1 h

/-! ### 4. A region, by a plan -/
/-- The code's end within a region: it goes on normally. -/
def QN (K : Act → World → Prop) : Exit → Act → World → Prop
  | .normal, a, w => K a w
  | _, _, _ => False

section
variable {P : Program} {ro : Option Nat} {ops : Array Oper} {K : Act → World → Prop} {md : Region.Mode} {S : World → Prop}

def YIf (P : Program) (ops : Array Oper) (S : World → Prop) (o : Oper) (v : Value) (a : Act) : Prop :=
  (Region.wanted o (yielded ops a.tmps) = true ∧ ∀ w, S w → (execOp a.eval o).run P w = .ok (.value v) w) ∨
  (Region.wanted o (yielded ops a.tmps) = false ∧ v = undef)
def noDefer (o : Oper) : Bool := match o.op with | .defer _ => false | .select .. => false | _ => true
theorem noDefer_defer {o : Oper} (h : noDefer o = true) (c : Call) : o.op ≠ .defer c := by intro e; simp [noDefer, e] at h
theorem noDefer_select {o : Oper} (h : noDefer o = true) (cs : Array SelectCase) (b : Bool) : o.op ≠ .select cs b := by intro e; simp [noDefer, e] at h

theorem YIf.op {i : Nat} {o : Oper} {v : Value} {a : Act} (hi : ops[i]? = some o) (hn : noDefer o = true) (hy : YIf P ops S o v a)
    {J : Act → World → Prop} {w : World} (hS : S w) (h : J (a.put o.dst v) w) : wpOpIn (Fw ro) 0 P ops (QN K) i J a w := by
  unfold wpOpIn
  simp only [hi]
  rcases hy with ⟨hw, hv⟩ | ⟨hw, rfl⟩
  · simp only [hw, if_true, Oper.wpIn, Oper.semAt_eq _ _ _ (noDefer_defer hn), hv w hS, Oper.uponIn]
    exact ⟨fun _ _ => trivial, h⟩
  · simp only [hw, Bool.false_eq_true, if_false]; exact ⟨fun _ _ => trivial, h⟩
theorem YIf.of_same {o : Oper} {v : Value} {a a' : Act} (hy : YIf P ops S o v a) (he : execOp a'.eval o = execOp a.eval o)
    (hw : Region.wanted o (yielded ops a'.tmps) = Region.wanted o (yielded ops a.tmps)) : YIf P ops S o v a' := by
  unfold YIf at *
  rw [he, hw]
  exact hy
theorem op_putIf {j : Nat} {oi oj : Oper} {v : Value} (hj : ops[j]? = some oj) (hap : oi.apart ops oj = true)
    (hni : noDefer oi = true) (hnj : noDefer oj = true) {J : Act → World → Prop} {a : Act} {w : World}
    (hy : YIf P ops S oi v a) (h : wpOpIn (Fw ro) 0 P ops (QN K) j J (a.put oi.dst v) w) :
    wpOpIn (Fw ro) 0 P ops (QN K) j (fun a' w' => YIf P ops S oi v a' ∧ J (a'.put oi.dst v) w') a w := by
  obtain ⟨h1, h2, h3⟩ := Oper.apart_spec hap
  have hsi := noDefer_select hni
  have hsj := noDefer_select hnj
  have keep : ∀ (a : Act), YIf P ops S oi v a → ∀ u, YIf P ops S oi v (a.put oj.dst u) := fun a hy u =>
    hy.of_same (execOp_put oi hsi a oj.dst u h3) (wanted_put oi a oj.dst u h3)
  have keepD : ∀ d, YIf P ops S oi v { a with defers := d :: a.defers } := fun d => hy.of_same rfl rfl
  unfold wpOpIn at *
  simp only [hj] at *
  rw [wanted_put oj a oi.dst v h1] at h
  split
  · rename_i hw
    simp only [hw, if_true] at h
    unfold Oper.wpIn at *
    refine ⟨fun _ _ => trivial, ?_⟩
    have h := h.2
    rw [Oper.semAt_eq _ _ _ (noDefer_defer hnj), execOp_put oj hsj a oi.dst v h1] at h
    rw [Oper.semAt_eq _ _ _ (noDefer_defer hnj)]
    generalize (execOp a.eval oj).run P w = r at *
    cases r with
    | ok x w' =>
      cases x <;> simp only [Oper.uponIn] at h ⊢
      case value u => exact ⟨keep a hy u, by rw [← Act.put_comm a v u h2]; exact h⟩
      case skip => exact ⟨keep a hy _, by rw [← Act.put_comm a v undef h2]; exact h⟩
      case defer d =>
        refine ⟨keep _ (keepD d) _, ?_⟩
        rw [← Act.put_comm _ v undef h2, ← Act.put_defers]
        exact h
      case enter f args =>
        refine ⟨h.1, CallsIn.mono h.2 fun e w'' he => ?_⟩
        cases e with
        | returned u => exact ⟨keep a hy u, by rw [← Act.put_comm a v u h2]; exact he⟩
        | panicked c => exact he.elim
        | outgrown => exact he
      case row row args => exact ⟨h.1, RowsIn.mono h.2 fun u w'' he => ⟨keep a hy u, by rw [← Act.put_comm a v u h2]; exact he⟩⟩
      case round l f tmps assign body =>
        refine ⟨h.1, RoundIn.mono h.2 fun e w'' he => ?_⟩
        cases e with
        | returned u => exact ⟨keep a hy u, by rw [← Act.put_comm a v u h2]; exact he⟩
        | panicked c => exact he.elim
        | outgrown => exact he
    | halt x w' => cases x <;> simp only [Oper.uponIn] at h ⊢ <;> exact h.elim
  · rename_i hw
    simp only [hw] at h
    exact ⟨fun _ _ => trivial, keep a hy _, by rw [← Act.put_comm a v undef h2]; exact h.2⟩

/-- All operations that number j waits for, by a table that is checked. -/
def maskOK (md : Region.Mode) (M : Array Nat) (ops : Array Oper) : Bool :=
  (List.range ops.size).all fun j => match ops[j]? with
    | none => true
    | some o => (List.range ops.size).all fun i => !(M.getD j 0).testBit i || o.after.toList.any fun e => Region.binds md e && Nat.blt e.on j && (e.on == i || (M.getD e.on 0).testBit i)
/-- Number j waits for all others. -/
def lastOf (md : Region.Mode) (ops : Array Oper) (j : Nat) : Bool :=
  Nat.blt j ops.size && maskOK md (Region.before ops) ops && (List.range ops.size).all fun i => i == j || ((Region.before ops).getD j 0).testBit i
def Down (md : Region.Mode) (ops : Array Oper) (listed : Array Bool) : Prop := ∀ j o, ops[j]? = some o → listed.getD j false = true → ∀ e ∈ o.after, Region.binds md e = true → listed.getD e.on false = true
theorem mask_unlisted {M : Array Nat} (hM : maskOK md M ops = true) {listed : Array Bool} (hD : Down md ops listed) {i : Nat} (hi : i < ops.size) (hu : listed.getD i false = false) : ∀ (j : Nat) (o : Oper), ops[j]? = some o → (M.getD j 0).testBit i = true →
    ∃ e ∈ o.after, Region.binds md e = true ∧ listed.getD e.on false = false := by
  intro j
  induction j using Nat.strongRecOn with
  | _ j ih =>
    intro o ho hb
    have hj := (Array.getElem?_eq_some_iff.1 ho).1
    have h1 := List.all_eq_true.1 hM j (List.mem_range.2 hj)
    rw [ho] at h1
    have h2 := List.all_eq_true.1 h1 i (List.mem_range.2 hi)
    rw [hb] at h2
    simp only [Bool.not_true, Bool.false_or, List.any_eq_true, Bool.and_eq_true, Bool.or_eq_true, beq_iff_eq] at h2
    obtain ⟨e, he, ⟨hbd, hlt⟩, h3⟩ := h2
    have hlt' : e.on < j := by simp [Nat.blt] at hlt; omega
    refine ⟨e, by simpa using he, hbd, ?_⟩
    rcases h3 with h3 | h3
    · rw [h3]; exact hu
    · cases hl : listed.getD e.on false with
      | false => rfl
      | true =>
        obtain ⟨oe, hoe⟩ : ∃ oe, ops[e.on]? = some oe := ⟨_, Array.getElem?_eq_getElem (by omega)⟩
        obtain ⟨e2, he2, hb2, hu2⟩ := ih e.on hlt' oe hoe h3
        have := hD e.on oe hoe hl e2 he2 hb2
        rw [this] at hu2; cases hu2
theorem last_not_ready {listed : Array Bool} (hD : Down md ops listed) {i j : Nat} (hi : i < ops.size) (hu : listed.getD i false = false) (hne : i ≠ j) (hl : lastOf md ops j = true) : j ∉ Region.ready md ops listed := by
  intro hr
  simp only [lastOf, Bool.and_eq_true] at hl
  obtain ⟨⟨hj, hM⟩, hall⟩ := hl
  obtain ⟨_, oj, hoj, hpre⟩ := mem_ready.1 hr
  have h1 := List.all_eq_true.1 hall i (List.mem_range.2 hi)
  simp only [Bool.or_eq_true, beq_iff_eq] at h1
  obtain ⟨e, he, hb, hu2⟩ := mask_unlisted hM hD hi hu j oj hoj (h1.resolve_left hne)
  have := hpre e he hb
  rw [this] at hu2; cases hu2
theorem Down.step {listed : Array Bool} (hD : Down md ops listed) {j : Nat} (hj : j ∈ Region.ready md ops listed) : Down md ops (listed.setIfInBounds j true) := by
  intro k o ho hk e he hb
  by_cases hkj : j = k
  · subst hkj
    obtain ⟨_, o', ho', hpre⟩ := mem_ready.1 hj
    rw [ho] at ho'; cases ho'
    exact getD_set_true (hpre e he hb)
  · rw [getD_set_ne false hkj] at hk
    exact getD_set_true (hD k o ho hk e he hb)

/-- Whatever order is picked, S holding behind every operation but one that waits for all others. -/
def AnyH (P : Program) (ro : Option Nat) (md : Region.Mode) (ops : Array Oper) (K : Act → World → Prop) (S : World → Prop) : Nat → Array Bool → Act → World → Prop
  | 0, listed, a, w => Region.ready md ops listed = [] ∧ K a w
  | fuel + 1, listed, a, w =>
    (Region.ready md ops listed = [] → K a w) ∧
    ∀ i ∈ Region.ready md ops listed, wpOpIn (Fw ro) 0 P ops (QN K) i (fun a' w' => (lastOf md ops i = true ∨ S w') ∧ AnyH P ro md ops K S fuel (listed.setIfInBounds i true) a' w') a w
theorem any_of_held : ∀ (fuel : Nat) (listed : Array Bool) (a : Act) (w : World), AnyH P ro md ops K S fuel listed a w → wpAnyIn (Fw ro) 0 P md ops (QN K) fuel listed a w
  | 0, _, _, _, h => h
  | fuel + 1, _, _, _, h => ⟨h.1, fun i hi => wpOpIn_mono (fun a' w' h' => any_of_held fuel _ a' w' h'.2) (h.2 i hi)⟩
def allPlain (ops : Array Oper) : Bool := ops.all noDefer
theorem allPlain_spec (h : allPlain ops = true) {j : Nat} {o : Oper} (ho : ops[j]? = some o) : noDefer o = true :=
  Array.all_eq_true_iff_forall_mem.1 h o (Array.mem_of_getElem? ho)
theorem anyH_first {i : Nat} {oi : Oper} {v : Value} (hi : ops[i]? = some oi) (hall : allPlain ops = true) :
    ∀ (fuel : Nat) (listed : Array Bool) (a : Act) (w : World), Down md ops listed →
      (∀ j oj, ops[j]? = some oj → j ≠ i → listed.getD j true = false → (∀ e ∈ oj.after, Region.binds md e = true → e.on ≠ i) → oi.apart ops oj = true) →
      i ∈ Region.ready md ops listed → YIf P ops S oi v a → S w →
      AnyH P ro md ops K S fuel (listed.setIfInBounds i true) (a.put oi.dst v) w → AnyH P ro md ops K S (fuel + 1) listed a w := by
  intro fuel
  have hisz := (Array.getElem?_eq_some_iff.1 hi).1
  induction fuel with
  | zero =>
    intro listed a w _ _ hr hy hS H
    refine ⟨fun h => (by rw [h] at hr; cases hr), fun j hj => ?_⟩
    by_cases hji : j = i
    · subst hji; exact hy.op hi (allPlain_spec hall hi) hS ⟨.inr hS, H⟩
    · have := ready_mono hj hji
      rw [H.1] at this
      cases this
  | succ fuel ih =>
    intro listed a w hD hfree hr hy hS H
    refine ⟨fun h => (by rw [h] at hr; cases hr), fun j hj => ?_⟩
    by_cases hji : j = i
    · subst hji; exact hy.op hi (allPlain_spec hall hi) hS ⟨.inr hS, H⟩
    · have h1 := H.2 j (ready_mono hj hji)
      obtain ⟨hjun, oj, hoj, hall2⟩ := mem_ready.1 hj
      have hiun : listed.getD i false = false := by
        have h0 := (mem_ready.1 hr).1
        rcases Nat.lt_or_ge i listed.size with h' | h'
        · simp [h'] at h0 ⊢; exact h0
        · simp [Array.getElem?_eq_none h']
      have hnot : ∀ e ∈ oj.after, Region.binds md e = true → e.on ≠ i := fun e he hb heq => by
        have h1 := hall2 e he hb
        rw [heq, hiun] at h1; cases h1
      have h2 := op_putIf hoj (hfree j oj hoj hji hjun hnot) (allPlain_spec hall hi) (allPlain_spec hall hoj) hy h1
      have hfree' : ∀ k ok, ops[k]? = some ok → k ≠ i → (listed.setIfInBounds j true).getD k true = false →
          (∀ e ∈ ok.after, Region.binds md e = true → e.on ≠ i) → oi.apart ops ok = true := fun k ok hk hki hun hno => by
        refine hfree k ok hk hki ?_ hno
        by_cases hjk : j = k
        · subst hjk; exact hjun
        · rw [getD_set_ne true hjk] at hun; exact hun
      refine wpOpIn_mono (fun a' w' h3 => ?_) h2
      have hS' : S w' := h3.2.1.resolve_left fun hl => last_not_ready hD hisz hiun (Ne.symm hji) hl hj
      refine ⟨.inr hS', ih (listed.setIfInBounds j true) a' w' (hD.step hj) hfree' (ready_mono hr (Ne.symm hji)) h3.1 hS' ?_⟩
      rw [Array.setIfInBounds_comm _ _ hji]
      exact h3.2.2

/-- A region carried out by a plan: 'true': an operation that yields its value in every world that meets S; 'false': any other. -/
def Plan (P : Program) (ro : Option Nat) (dr : Bool) (ops : Array Oper) (K : Act → World → Prop) (S : World → Prop) : List (Nat × Bool) → Act → World → Prop
  | [], a, w => K a w
  | (i, true) :: t, a, w => ∃ o v, ops[i]? = some o ∧ YIf P ops S o v a ∧ Plan P ro dr ops K S t (a.put o.dst v) w
  | (i, false) :: t, a, w => wpOpIn (Fw ro) 0 P ops (QN K) i (fun a' w' => ((t = [] ∧ (!dr || lastOf .any ops i) = true) ∨ S w') ∧ Plan P ro dr ops K S t a' w') a w
def planGo (ops : Array Oper) (listed : Array Bool) : List (Nat × Bool) → Bool
  | [] => (Region.ready .any ops listed).isEmpty
  | (i, true) :: t => (Region.ready .any ops listed).contains i && Region.free .any ops listed i && planGo ops (listed.setIfInBounds i true) t
  | (i, false) :: t => (Region.ready .any ops listed == [i]) && planGo ops (listed.setIfInBounds i true) t
theorem plan_anyH (hall : allPlain ops = true) : ∀ (pl : List (Nat × Bool)) (listed : Array Bool) (a : Act) (w : World), Down .any ops listed → planGo ops listed pl = true → S w →
    Plan P ro true ops K S pl a w → ∀ fuel, pl.length ≤ fuel → AnyH P ro .any ops K S fuel listed a w
  | [], listed, a, w, hD, hg, hS, h, fuel, _ => by
    have hr : Region.ready .any ops listed = [] := by simpa [planGo] using hg
    cases fuel with
    | zero => exact ⟨hr, h⟩
    | succ fuel => exact ⟨fun _ => h, by rw [hr]; simp⟩
  | (i, true) :: t, listed, a, w, hD, hg, hS, h, fuel, hf => by
    obtain ⟨o, v, ho, hy, h⟩ := h
    simp only [planGo, Bool.and_eq_true] at hg
    obtain ⟨⟨hr, hfr⟩, hg⟩ := hg
    cases fuel with
    | zero => simp at hf
    | succ fuel =>
      have hr' : i ∈ Region.ready .any ops listed := by simpa using hr
      exact anyH_first ho hall fuel listed a w hD (Region.free_spec ho hfr) hr' hy hS (plan_anyH hall t _ _ _ (hD.step hr') hg hS h fuel (by simpa using hf))
  | (i, false) :: t, listed, a, w, hD, hg, hS, h, fuel, hf => by
    simp only [planGo, Bool.and_eq_true, beq_iff_eq] at hg
    obtain ⟨hr, hg⟩ := hg
    cases fuel with
    | zero => simp at hf
    | succ fuel =>
      refine ⟨fun h0 => (by rw [hr] at h0; cases h0), fun j hj => ?_⟩
      have hj' := hj
      rw [hr] at hj
      obtain rfl : j = i := by simpa using hj
      refine wpOpIn_mono (fun a' w' h' => ?_) h
      rcases h'.1 with ⟨ht, hl⟩ | hS'
      · subst ht
        have hl' : lastOf .any ops j = true := by simpa using hl
        refine ⟨.inl hl', ?_⟩
        have hr2 : Region.ready .any ops (listed.setIfInBounds j true) = [] := by simpa [planGo] using hg
        cases fuel with
        | zero => exact ⟨hr2, h'.2⟩
        | succ fuel => exact ⟨fun _ => h'.2, by rw [hr2]; simp⟩
      · exact ⟨.inr hS', plan_anyH hall t _ _ _ (hD.step hj') hg hS' h'.2 fuel (by simpa using hf)⟩
def planOK (draw : Bool) (ops : Array Oper) (pl : List (Nat × Bool)) : Bool :=
  allPlain ops && (if draw then planGo ops (Array.replicate ops.size false) pl && Nat.ble pl.length ops.size else pl.map (·.1) == List.range ops.size)
theorem plan_ops (hall : allPlain ops = true) : ∀ (pl : List (Nat × Bool)) (a : Act) (w : World), (pl = [] ∨ S w) → Plan P ro false ops K S pl a w → wpOpsIn (Fw ro) 0 P ops (QN K) (pl.map (·.1)) a w
  | [], a, w, _, h => h
  | (i, true) :: t, a, w, hS, h => by
    have hS := hS.resolve_left (by simp)
    obtain ⟨o, v, ho, hy, h⟩ := h
    simp only [List.map_cons]
    rw [wpOpsIn_cons]
    exact hy.op ho (allPlain_spec hall ho) hS (plan_ops hall t _ _ (.inr hS) h)
  | (i, false) :: t, a, w, hS, h => by
    simp only [List.map_cons]
    rw [wpOpsIn_cons]
    exact wpOpIn_mono (fun a' w' h' => plan_ops hall t _ _ (h'.1.imp (·.1) id) h'.2) h
end

/-- **A REGION, BY ITS PLAN.** -/
theorem wp_reg {P : Program} {ro : Option Nat} {id : Nat} {ops : Array Oper} {draw : Bool} {Q : Exit → Act → World → Prop} {a : Act} {w : World} {e : Env} (L R : List Part) (pl : List (Nat × Bool))
    (hm : P.follows .mixedOrders = true) (hpl : planOK draw ops pl = true) (hT : Tot e w (L ++ R))
    (h : ∀ w', Tot e w' (L ++ R) → Plan P ro draw ops (Q .normal) (fun w => HasAll w R) pl a w') : (Code.region id ops draw).wpIn (Fw ro) 0 P Q a w := by
  simp only [planOK, Bool.and_eq_true] at hpl
  obtain ⟨hall, hpl⟩ := hpl
  refine wpIn_mono (Q := QN (Q .normal)) ?_ (fun ex a' w' hq => by cases ex <;> simp only [QN] at hq; exact hq)
  cases draw with
  | false =>
    simp only [Bool.false_eq_true, if_false, beq_iff_eq] at hpl
    refine wpIn_region ?_
    rw [← hpl]
    exact plan_ops hall pl a w (.inr hT.allR) (h w hT)
  | true =>
    simp only [if_true, Bool.and_eq_true] at hpl
    refine wpIn_region_any hm (any_of_held _ _ _ _ (plan_anyH hall pl _ a _ (fun j o ho hj => ?_) hpl.1 ?_ (h _ ?_) _ (Nat.le_of_ble_eq_true hpl.2)))
    · have hj' : j < ops.size := (Array.getElem?_eq_some_iff.1 ho).1
      simp [hj'] at hj
    · exact hT.drew.allR
    · exact hT.drew
end Go.Proofs.Ytjhbgciocffihaa
