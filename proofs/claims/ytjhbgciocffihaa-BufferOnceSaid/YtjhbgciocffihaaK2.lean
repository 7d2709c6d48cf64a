/-
  Own words, part 2: whole numbers, tests, slices' addresses and cuts; effects ('Ef'): boxes, stores, calls; tests of code; a function's contract out of its body.
-/
import Derived.Test.YtjhbgciocffihaaK1
set_option linter.unusedVariables false
set_option linter.unusedSimpArgs false
namespace Go.Proofs.Ytjhbgciocffihaa

section
variable {P : Program} {R : List Part} {l : List (Nat × Value)} {ty : TypeId}
def inI64 (x : Int) : Prop := -9223372036854775808 ≤ x ∧ x ≤ 9223372036854775807
theorem wrap_i64 {x : Int} (h : inI64 x) : IntKind.i64.wrap x = x := by
  unfold inI64 at h
  simp only [IntKind.wrap, IntKind.bits, IntKind.signed]
  simp
  omega
theorem run_bin (op : BinOp) (t : TypeId) (x y : Operand) (k : IntKind) (p q : Int) (w : World) : (eqGuard op t x y (.int k p) (.int k q)).run P w = .ok () w := by
  unfold eqGuard
  cases op <;> simp [Sem.run_pure]
theorem yl_arith {op : BinOp} {t u : TypeId} {x y : Operand} {k : IntKind} {p q : Int} (hx : ev l x = some (.int k p)) (hy : ev l y = some (.int k q)) {r : Int}
    (ho : (match op with | .add => some (k.wrap (p + q)) | .sub => some (k.wrap (p - q)) | .mul => some (k.wrap (p * q)) | _ => none) = some r) : Yl P R l (.binOp op t x y u) ty (.int k r) := by
  intro a w ha hw dst pos after guard
  simp only [execOp, ha.ev hx, ha.ev hy]
  rw [Sem.run_bind, Sem.run_bind, run_bin]
  cases op <;> simp at ho <;> simp [binOp, Op.intArith, Result.andThen, Sem.run_pure, ho]
theorem yl_add {t u : TypeId} {x y : Operand} {p q : Int} (hx : ev l x = some (.int .i64 p)) (hy : ev l y = some (.int .i64 q)) (h : inI64 (p + q)) : Yl P R l (.binOp .add t x y u) ty (.int .i64 (p + q)) :=
  yl_arith hx hy (by simp only [wrap_i64 h])
theorem yl_sub {t u : TypeId} {x y : Operand} {p q : Int} (hx : ev l x = some (.int .i64 p)) (hy : ev l y = some (.int .i64 q)) (h : inI64 (p - q)) : Yl P R l (.binOp .sub t x y u) ty (.int .i64 (p - q)) :=
  yl_arith hx hy (by simp only [wrap_i64 h])
theorem yl_mul {t u : TypeId} {x y : Operand} {p q : Int} (hx : ev l x = some (.int .i64 p)) (hy : ev l y = some (.int .i64 q)) (h : inI64 (p * q)) : Yl P R l (.binOp .mul t x y u) ty (.int .i64 (p * q)) :=
  yl_arith hx hy (by simp only [wrap_i64 h])
theorem yl_quo {t u : TypeId} {x y : Operand} {p q : Int} (hx : ev l x = some (.int .i64 p)) (hy : ev l y = some (.int .i64 q)) (h0 : 0 ≤ p) (h1 : 0 < q) (h2 : p ≤ 9223372036854775807) : Yl P R l (.binOp .quo t x y u) ty (.int .i64 (p / q)) := by
  intro a w ha hw dst pos after guard
  simp only [execOp, ha.ev hx, ha.ev hy]
  rw [Sem.run_bind, Sem.run_bind, run_bin]
  have hne : q ≠ 0 := by omega
  have hd : p.tdiv q = p / q := Int.tdiv_eq_ediv_of_nonneg h0
  have hb : inI64 (p / q) := ⟨by have := Int.ediv_nonneg h0 (Int.le_of_lt h1); omega, by have := Int.ediv_le_self q h0; omega⟩
  simp [binOp, Op.intDiv, Result.andThen, Sem.run_pure, hne, hd, wrap_i64 hb]
theorem yl_rem {t u : TypeId} {x y : Operand} {p q : Int} (hx : ev l x = some (.int .i64 p)) (hy : ev l y = some (.int .i64 q)) (h0 : 0 ≤ p) (h1 : 0 < q) : Yl P R l (.binOp .rem t x y u) ty (.int .i64 (p % q)) := by
  intro a w ha hw dst pos after guard
  simp only [execOp, ha.ev hx, ha.ev hy]
  rw [Sem.run_bind, Sem.run_bind, run_bin]
  have hne : q ≠ 0 := by omega
  have hd : p.tmod q = p % q := Int.tmod_eq_emod_of_nonneg h0
  simp [binOp, Op.intDiv, Result.andThen, Sem.run_pure, hne, hd]
theorem yl_remk {k : IntKind} {t u : TypeId} {x y : Operand} {p q : Int} (hx : ev l x = some (.int k p)) (hy : ev l y = some (.int k q)) (h0 : 0 ≤ p) (h1 : 0 < q) : Yl P R l (.binOp .rem t x y u) ty (.int k (p % q)) := by
  intro a w ha hw dst pos after guard
  simp only [execOp, ha.ev hx, ha.ev hy]
  rw [Sem.run_bind, Sem.run_bind, run_bin]
  have hne : q ≠ 0 := by omega
  have hd : p.tmod q = p % q := Int.tmod_eq_emod_of_nonneg h0
  simp [binOp, Op.intDiv, Result.andThen, Sem.run_pure, hne, hd]
theorem yl_cmp {op : BinOp} {t u : TypeId} {x y : Operand} {k : IntKind} {p q : Int} (hx : ev l x = some (.int k p)) (hy : ev l y = some (.int k q)) {r : Bool}
    (ho : (match op with | .eql => some (decide (p = q)) | .neq => some (decide (p ≠ q)) | .lss => some (decide (p < q)) | .leq => some (decide (p ≤ q)) | .gtr => some (decide (q < p)) | .geq => some (decide (q ≤ p)) | _ => none) = some r) :
    Yl P R l (.binOp op t x y u) ty (.bool r) := by
  intro a w ha hw dst pos after guard
  simp only [execOp, ha.ev hx, ha.ev hy]
  rw [Sem.run_bind, Sem.run_bind, run_bin]
  have e1 : (p == q) = decide (p = q) := by by_cases h : p = q <;> simp [h]
  have e2 : (p != q) = decide (p ≠ q) := by by_cases h : p = q <;> simp [h]
  cases op <;> first
    | (cases ho; done)
    | (cases ho; simp only [binOp, Op.intCmp, Result.andThen_ok, Sem.run_bind, Sem.run_pure, e1, e2, ne_eq, not_true, if_false]; first | done | rfl)
theorem yl_conv {src dst' : TypeId} {x : Operand} {k k' : IntKind} {p : Int} {ds : TypeDesc} (hx : ev l x = some (.int k p)) (hs : P.underlying src = some ds) (hd : P.underlying dst' = some (.int k')) : Yl P R l (.convert src dst' x) ty (.int k' (k'.wrap p)) := by
  intro a w ha hw dst pos after guard
  simp only [execOp, ha.ev hx, convert]
  simp [Sem.run_bind, run_underlying' hs, run_underlying' hd, Result.andThen, Conv.intToInt, Sem.run_pure]
theorem yl_conv64 {src dst' : TypeId} {x : Operand} {k : IntKind} {p : Int} {ds : TypeDesc} (hx : ev l x = some (.int k p)) (hs : P.underlying src = some ds) (hd : P.underlying dst' = some (.int .i64)) (h : inI64 p) : Yl P R l (.convert src dst' x) ty (.int .i64 p) := by
  have := yl_conv (R := R) (ty := ty) (P := P) hx hs hd
  rwa [wrap_i64 h] at this
theorem yl_len {x : Operand} {t : TypeId} {e : TypeId} {A : Option Addr} {n c : Nat} (hx : ev l x = some (.slice A n c)) (hu : P.underlying t = some (.slice e)) : Yl P R l (.call ⟨.builtin .len, #[x], #[t]⟩) ty (.int .i64 n) := by
  intro a w ha hw dst pos after guard
  simp [execOp, resolve, invoke, builtin, Builtin.len_, ha.ev hx, Sem.run_bind, Sem.run_pure, Result.andThen, run_underlying' hu, goInt]
theorem yl_index {t : TypeId} {x y : Operand} {b off n c : Nat} {j : Int} {e : TypeId} {k sz : Nat} (hx : ev l x = some (.slice (some ⟨b, off, none⟩) n c)) (hy : ev l y = some (.int .i64 j)) (hu : P.underlying t = some (.slice e)) (hs : (P.info? e).map (·.size) = some sz)
    (h0 : 0 ≤ j) (h1 : j < n) (hk : off + j.toNat * sz = k) : Yl P R l (.indexAddr t x y) ty (.pointer (some ⟨b, k, none⟩)) := by
  intro a w ha hw dst pos after guard
  obtain ⟨i, hi, hn⟩ := Option.map_eq_some_iff.1 hs
  have hz : (sizeOf e).run P w = .ok sz w := by simp [sizeOf, typeInfo, program, Sem.run_bind, Sem.run, Result.andThen, hi, hn, pure, Sem.pure]
  simp only [execOp, ha.ev hx, ha.ev hy, Instr.indexAt]
  simp [Sem.run_bind, Sem.run_pure, Result.andThen, run_underlying' hu, asIntOf, h0, h1, hz, add_at, hk]
/-- x[lo:hi] of a slice, its address kept where the capacity is not used up. -/
theorem yl_slice {t : TypeId} {x : Operand} {lo hi : Option Operand} {A : Option Addr} {n c : Nat} {e : TypeId} {sz : Nat} {L H : Nat} (hx : ev l x = some (.slice A n c)) (hu : P.underlying t = some (.slice e)) (hs : (P.info? e).map (·.size) = some sz)
    (hlo : (match lo with | none => some 0 | some o => match ev l o with | some (.int _ j) => if 0 ≤ j then some j.toNat else none | _ => none) = some L)
    (hhi : (match hi with | none => some n | some o => match ev l o with | some (.int _ j) => if 0 ≤ j then some j.toNat else none | _ => none) = some H)
    (h1 : L ≤ H) (h2 : H ≤ c) : Yl P R l (.slice t x lo hi none) ty (.slice (if c = L then A else A.map (·.add (L * sz))) (H - L) (c - L)) := by
  intro a w ha hw dst pos after guard
  obtain ⟨i, hi', hn⟩ := Option.map_eq_some_iff.1 hs
  have hz : ∀ w, (sizeOf e).run P w = .ok sz w := fun w => by simp [sizeOf, typeInfo, program, Sem.run_bind, Sem.run, Result.andThen, hi', hn, pure, Sem.pure]
  have hb : ∀ (v : Value) (k : IntKind) (j : Int) (y : Nat) (code : BoundsCode) (w : World), v = .int k j → 0 ≤ j → j ≤ y → (Instr.sliceBound v y code).run P w = .ok j.toNat w := by
    intro v k j y code w hv h0 h1
    subst hv
    simp [Instr.sliceBound, asIntOf, Sem.run_bind, Sem.run_pure, Result.andThen, h0, h1]
  simp only [execOp, ha.ev hx, Instr.sliceAt, Option.map_none]
  cases hi with
  | none =>
    simp only [Option.some.injEq] at hhi
    subst hhi
    cases lo with
    | none =>
      simp only [Option.some.injEq] at hlo
      subst hlo
      simp [Sem.run_bind, run_underlying' hu, Instr.slice, Instr.sliceBounds, Sem.run_pure, hz]
    | some o =>
      simp only at hlo
      split at hlo
      · rename_i k j he
        split at hlo
        · rename_i h0
          simp only [Option.some.injEq] at hlo
          subst hlo
          simp [Sem.run_bind, run_underlying' hu, Instr.slice, Instr.sliceBounds, Sem.run_pure, hz, ha.ev he, hb _ k j n _ w rfl h0 (by omega)]
        · cases hlo
      · cases hlo
  | some o' =>
    simp only at hhi
    split at hhi
    · rename_i k' j' he'
      split at hhi
      · rename_i h0'
        simp only [Option.some.injEq] at hhi
        subst hhi
        cases lo with
        | none =>
          simp only [Option.some.injEq] at hlo
          subst hlo
          simp [Sem.run_bind, run_underlying' hu, Instr.slice, Instr.sliceBounds, Sem.run_pure, hz, ha.ev he', hb _ k' j' c _ w rfl h0' (by omega)]
        | some o =>
          simp only at hlo
          split at hlo
          · rename_i k j he
            split at hlo
            · rename_i h0
              simp only [Option.some.injEq] at hlo
              subst hlo
              simp [Sem.run_bind, run_underlying' hu, Instr.slice, Instr.sliceBounds, Sem.run_pure, hz, ha.ev he, ha.ev he', hb _ k' j' c _ w rfl h0' (by omega), hb _ k j j'.toNat _ w rfl h0 (by omega)]
            · cases hlo
          · cases hlo
      · cases hhi
    · cases hhi
end

/-! ### Effects -/
section
variable {P : Program} {ro : Option Nat} {dr : Bool} {ops : Array Oper} {K : Act → World → Prop} {R L : List Part} {l l' : List (Nat × Value)} {D : List Deferred} {a : Act} {w : World} {N : Nat}
  {t : List (Nat × Bool)} {i d : Nat} {op : Op} {ty : TypeId} {pos : String} {after : Array Edge} {v : Value} {e : Env}

/-- An operation that turns the blocks of L and yields a value. -/
def Ef (P : Program) (e : Env) (l : List (Nat × Value)) (op : Op) (ty : TypeId) (L R : List Part) (Z : Value → List Part → Prop) : Prop :=
  ∀ a w, Knows l a → Tot e w (L ++ R) → ∀ dst pos after guard, ∃ v w' L', (execOp a.eval ⟨dst, op, ty, pos, after, guard⟩).run P w = .ok (.value v) w' ∧ Z v L' ∧ Tot e w' (L' ++ R)
/-- .. that yields none. -/
def EfS (P : Program) (e : Env) (l : List (Nat × Value)) (op : Op) (ty : TypeId) (L R : List Part) (Z : List Part → Prop) : Prop :=
  ∀ a w, Knows l a → Tot e w (L ++ R) → ∀ dst pos after guard, ∃ w' L', (execOp a.eval ⟨dst, op, ty, pos, after, guard⟩).run P w = .ok .skip w' ∧ Z L' ∧ Tot e w' (L' ++ R)
/-- A call's contract. -/
def Spec (P : Program) (f : FuncId) (args : Array Value) (e : Env) (w : World) (R : List Part) (Z : Value → List Part → Prop) : Prop :=
  Calls P f args w fun en w' => ∃ v L', en = .returned v ∧ Z v L' ∧ Tot e w' (L' ++ R)

theorem Spec.mono {f : FuncId} {args : Array Value} {Z Z' : Value → List Part → Prop} (h : Spec P f args e w R Z) (hz : ∀ v L, Z v L → Z' v L) : Spec P f args e w R Z' :=
  Calls.mono h fun en w' ⟨v, L', h1, h2, h3⟩ => ⟨v, L', h1, hz _ _ h2, h3⟩

theorem Spec.frame {L2 : List Part} {f : FuncId} {args : Array Value} {Z : Value → List Part → Prop} (h : Spec P f args e w (L2 ++ R) Z) : Spec P f args e w R (fun v L' => ∃ L1, Z v L1 ∧ L' = L1 ++ L2) :=
  Calls.mono h fun en w' ⟨v, L', h1, h2, h3⟩ => ⟨v, L' ++ L2, h1, ⟨L', h2, rfl⟩, by rw [List.append_assoc]; exact h3⟩
theorem ef {Z : Value → List Part → Prop} (hf : Fr N l D a) (hT : Tot e w (L ++ R)) (ho : ops[i]? = some ⟨some d, op, ty, pos, after, none⟩) (hn : noDefer ⟨some d, op, ty, pos, after, none⟩ = true) (hy : Ef P e l op ty L R Z) (hd : Nat.blt d N = true) (hl : er l d = l')
    (k : ∀ a' w' v L', Z v L' → Fr N ((d, v) :: l') D a' → Tot e w' (L' ++ R) → Plan P ro dr ops K (fun w => HasAll w R) t a' w') : Plan P ro dr ops K (fun w => HasAll w R) ((i, false) :: t) a w := by
  obtain ⟨v, w', L', hr, hz, hT'⟩ := hy a w hf.knows hT (some d) pos after none
  have hw : Region.wanted (⟨some d, op, ty, pos, after, none⟩ : Oper) (yielded ops a.tmps) = true := wanted_none _ _ rfl
  simp only [Plan, wpOpIn, ho, hw, if_true, Oper.wpIn, Oper.semAt_eq _ _ _ (noDefer_defer hn), hr, Oper.uponIn]
  refine ⟨fun _ _ => trivial, (.inr hT'.allR), k _ _ v L' hz ?_ hT'⟩
  subst hl
  exact hf.put d v (blt_lt hd)
theorem efS {Z : List Part → Prop} (hf : Fr N l D a) (hT : Tot e w (L ++ R)) (ho : ops[i]? = some ⟨none, op, ty, pos, after, none⟩) (hn : noDefer ⟨none, op, ty, pos, after, none⟩ = true) (hy : EfS P e l op ty L R Z)
    (k : ∀ w' L', Z L' → Tot e w' (L' ++ R) → Plan P ro dr ops K (fun w => HasAll w R) t a w') : Plan P ro dr ops K (fun w => HasAll w R) ((i, false) :: t) a w := by
  obtain ⟨w', L', hr, hz, hT'⟩ := hy a w hf.knows hT none pos after none
  have hw : Region.wanted (⟨none, op, ty, pos, after, none⟩ : Oper) (yielded ops a.tmps) = true := wanted_none _ _ rfl
  simp only [Plan, wpOpIn, ho, hw, if_true, Oper.wpIn, Oper.semAt_eq _ _ _ (noDefer_defer hn), hr, Oper.uponIn]
  exact ⟨fun _ _ => trivial, (.inr hT'.allR), k _ L' hz hT'⟩
/-- .. whose value nobody keeps (delete). -/
theorem efN {Z : Value → List Part → Prop} (hf : Fr N l D a) (hT : Tot e w (L ++ R)) (ho : ops[i]? = some ⟨none, op, ty, pos, after, none⟩) (hn : noDefer ⟨none, op, ty, pos, after, none⟩ = true) (hy : Ef P e l op ty L R Z)
    (k : ∀ w' v L', Z v L' → Tot e w' (L' ++ R) → Plan P ro dr ops K (fun w => HasAll w R) t a w') : Plan P ro dr ops K (fun w => HasAll w R) ((i, false) :: t) a w := by
  obtain ⟨v, w', L', hr, hz, hT'⟩ := hy a w hf.knows hT none pos after none
  have hw : Region.wanted (⟨none, op, ty, pos, after, none⟩ : Oper) (yielded ops a.tmps) = true := wanted_none _ _ rfl
  simp only [Plan, wpOpIn, ho, hw, if_true, Oper.wpIn, Oper.semAt_eq _ _ _ (noDefer_defer hn), hr, Oper.uponIn]
  exact ⟨fun _ _ => trivial, (.inr hT'.allR), k _ v L' hz hT'⟩

def canEnter (P : Program) (f : FuncId) : Bool := match P.funcs[f]? with
  | some fn => fn.name != "runtime.NumGoroutine" && fn.body.isSome
  | none => false
theorem run_callFunc {f : FuncId} (h : canEnter P f = true) (args : Array Value) (w : World) : (callFunc f args).run P w = .ok (.enter f args) w := by
  unfold canEnter at h
  unfold callFunc
  cases hf : P.funcs[f]? with
  | none => rw [hf] at h; cases h
  | some fn =>
    rw [hf] at h
    simp only [Bool.and_eq_true, bne_iff_ne] at h
    have hb : fn.body.isNone = false := by
      cases hb : fn.body with
      | none => rw [hb] at h; simp at h
      | some c => rfl
    have hb2 : fn.body ≠ none := fun h2 => by rw [h2] at hb; simp at hb
    simp [program, Sem.run_bind, Sem.run, Result.andThen, pure, hf, h.1, hb2]
/-- A call of a function value: what it captured stands behind the arguments. -/
theorem ef_call {Z : Value → List Part → Prop} {g : Operand} {f : FuncId} {xs : Array Operand} {tys : Array TypeId} {cap : Array Value} {vs : List Value} {g0 : Option (Nat × Bool)} (hf : Fr N l D a)
    (ho : ops[i]? = some ⟨some d, .call ⟨.value g, xs, tys⟩, ty, pos, after, g0⟩) (hw : Region.wanted (⟨some d, .call ⟨.value g, xs, tys⟩, ty, pos, after, g0⟩ : Oper) (yielded ops a.tmps) = true)
    (hg : ev l g = some (.func (.func f) #[] cap)) (hx : evs l xs.toList = some vs) (hc : canEnter P f = true)
    (hs : Spec P f (vs.toArray ++ cap) e w R Z) (hd : Nat.blt d N = true) (hl : er l d = l')
    (k : ∀ a' w' v L', Z v L' → Fr N ((d, v) :: l') D a' → Tot e w' (L' ++ R) → Plan P ro dr ops K (fun w => HasAll w R) t a' w') : Plan P ro dr ops K (fun w => HasAll w R) ((i, false) :: t) a w := by
  have h2 : xs.map a.eval = vs.toArray := by rw [← hf.knows.evs hx]; apply Array.ext'; rw [Array.toList_map]
  have hr : (execOp a.eval ⟨some d, .call ⟨.value g, xs, tys⟩, ty, pos, after, g0⟩).run P w = .ok (.enter f (vs.toArray ++ cap)) w := by
    simp only [execOp, resolve, hf.ev hg, Deferred.ofValue, invoke, Sem.run_bind, Sem.run_pure, Result.andThen_ok, h2]
    rw [show #[] ++ vs.toArray = vs.toArray by simp]
    exact run_callFunc hc _ _
  simp only [Plan, wpOpIn, ho, hw, if_true, Oper.wpIn]
  rw [Oper.semAt_eq _ _ _ (by intro c h; cases h), hr]
  refine ⟨fun _ _ => trivial, ⟨fun h => (by cases h), callsIn_Fw (Calls.mono hs ?_)⟩⟩
  rintro en w' ⟨v, L', rfl, hz, hT'⟩
  refine ⟨(.inr hT'.allR), k _ _ v L' hz ?_ hT'⟩
  subst hl
  exact hf.put d v (blt_lt hd)
/-- .. whose value nobody keeps. -/
theorem ef_callN {Z : Value → List Part → Prop} {g : Operand} {f : FuncId} {xs : Array Operand} {tys : Array TypeId} {cap : Array Value} {vs : List Value} {g0 : Option (Nat × Bool)} (hf : Fr N l D a)
    (ho : ops[i]? = some ⟨none, .call ⟨.value g, xs, tys⟩, ty, pos, after, g0⟩) (hw : Region.wanted (⟨none, .call ⟨.value g, xs, tys⟩, ty, pos, after, g0⟩ : Oper) (yielded ops a.tmps) = true)
    (hg : ev l g = some (.func (.func f) #[] cap)) (hx : evs l xs.toList = some vs) (hc : canEnter P f = true)
    (hs : Spec P f (vs.toArray ++ cap) e w R Z)
    (k : ∀ w' v L', Z v L' → Tot e w' (L' ++ R) → Plan P ro dr ops K (fun w => HasAll w R) t a w') : Plan P ro dr ops K (fun w => HasAll w R) ((i, false) :: t) a w := by
  have h2 : xs.map a.eval = vs.toArray := by rw [← hf.knows.evs hx]; apply Array.ext'; rw [Array.toList_map]
  have hr : (execOp a.eval ⟨none, .call ⟨.value g, xs, tys⟩, ty, pos, after, g0⟩).run P w = .ok (.enter f (vs.toArray ++ cap)) w := by
    simp only [execOp, resolve, hf.ev hg, Deferred.ofValue, invoke, Sem.run_bind, Sem.run_pure, Result.andThen_ok, h2]
    rw [show #[] ++ vs.toArray = vs.toArray by simp]
    exact run_callFunc hc _ _
  simp only [Plan, wpOpIn, ho, hw, if_true, Oper.wpIn]
  rw [Oper.semAt_eq _ _ _ (by intro c h; cases h), hr]
  refine ⟨fun _ _ => trivial, ⟨fun h => (by cases h), callsIn_Fw (Calls.mono hs ?_)⟩⟩
  rintro en w' ⟨v, L', rfl, hz, hT'⟩
  exact ⟨(.inr hT'.allR), k _ v L' hz hT'⟩

/-! the last effect of a region: it may turn whatever was read -/
section
variable {S : World → Prop}
theorem ef_last {Z : Value → List Part → Prop} (hf : Fr N l D a) (hT : Tot e w (L ++ R)) (ho : ops[i]? = some ⟨some d, op, ty, pos, after, none⟩) (hn : noDefer ⟨some d, op, ty, pos, after, none⟩ = true) (hlast : (!dr || lastOf .any ops i) = true) (hy : Ef P e l op ty L R Z) (hd : Nat.blt d N = true) (hl : er l d = l')
    (k : ∀ a' w' v L', Z v L' → Fr N ((d, v) :: l') D a' → Tot e w' (L' ++ R) → K a' w') : Plan P ro dr ops K S [(i, false)] a w := by
  obtain ⟨v, w', L', hr, hz, hT'⟩ := hy a w hf.knows hT (some d) pos after none
  have hw : Region.wanted (⟨some d, op, ty, pos, after, none⟩ : Oper) (yielded ops a.tmps) = true := wanted_none _ _ rfl
  simp only [Plan, wpOpIn, ho, hw, if_true, Oper.wpIn, Oper.semAt_eq _ _ _ (noDefer_defer hn), hr, Oper.uponIn]
  refine ⟨fun _ _ => trivial, .inl ⟨trivial, hlast⟩, k _ _ v L' hz ?_ hT'⟩
  subst hl
  exact hf.put d v (blt_lt hd)
theorem efS_last {Z : List Part → Prop} (hf : Fr N l D a) (hT : Tot e w (L ++ R)) (ho : ops[i]? = some ⟨none, op, ty, pos, after, none⟩) (hn : noDefer ⟨none, op, ty, pos, after, none⟩ = true) (hlast : (!dr || lastOf .any ops i) = true) (hy : EfS P e l op ty L R Z)
    (k : ∀ w' L', Z L' → Tot e w' (L' ++ R) → K a w') : Plan P ro dr ops K S [(i, false)] a w := by
  obtain ⟨w', L', hr, hz, hT'⟩ := hy a w hf.knows hT none pos after none
  have hw : Region.wanted (⟨none, op, ty, pos, after, none⟩ : Oper) (yielded ops a.tmps) = true := wanted_none _ _ rfl
  simp only [Plan, wpOpIn, ho, hw, if_true, Oper.wpIn, Oper.semAt_eq _ _ _ (noDefer_defer hn), hr, Oper.uponIn]
  exact ⟨fun _ _ => trivial, .inl ⟨trivial, hlast⟩, k _ L' hz hT'⟩
theorem efN_last {Z : Value → List Part → Prop} (hf : Fr N l D a) (hT : Tot e w (L ++ R)) (ho : ops[i]? = some ⟨none, op, ty, pos, after, none⟩) (hn : noDefer ⟨none, op, ty, pos, after, none⟩ = true) (hlast : (!dr || lastOf .any ops i) = true) (hy : Ef P e l op ty L R Z)
    (k : ∀ w' v L', Z v L' → Tot e w' (L' ++ R) → K a w') : Plan P ro dr ops K S [(i, false)] a w := by
  obtain ⟨v, w', L', hr, hz, hT'⟩ := hy a w hf.knows hT none pos after none
  have hw : Region.wanted (⟨none, op, ty, pos, after, none⟩ : Oper) (yielded ops a.tmps) = true := wanted_none _ _ rfl
  simp only [Plan, wpOpIn, ho, hw, if_true, Oper.wpIn, Oper.semAt_eq _ _ _ (noDefer_defer hn), hr, Oper.uponIn]
  exact ⟨fun _ _ => trivial, .inl ⟨trivial, hlast⟩, k _ v L' hz hT'⟩
theorem ef_call_last {Z : Value → List Part → Prop} {g : Operand} {f : FuncId} {xs : Array Operand} {tys : Array TypeId} {cap : Array Value} {vs : List Value} {g0 : Option (Nat × Bool)} (hf : Fr N l D a)
    (ho : ops[i]? = some ⟨some d, .call ⟨.value g, xs, tys⟩, ty, pos, after, g0⟩) (hw : Region.wanted (⟨some d, .call ⟨.value g, xs, tys⟩, ty, pos, after, g0⟩ : Oper) (yielded ops a.tmps) = true) (hlast : (!dr || lastOf .any ops i) = true)
    (hg : ev l g = some (.func (.func f) #[] cap)) (hx : evs l xs.toList = some vs) (hc : canEnter P f = true)
    (hs : Spec P f (vs.toArray ++ cap) e w R Z) (hd : Nat.blt d N = true) (hl : er l d = l')
    (k : ∀ a' w' v L', Z v L' → Fr N ((d, v) :: l') D a' → Tot e w' (L' ++ R) → K a' w') : Plan P ro dr ops K S [(i, false)] a w := by
  have h2 : xs.map a.eval = vs.toArray := by rw [← hf.knows.evs hx]; apply Array.ext'; rw [Array.toList_map]
  have hr : (execOp a.eval ⟨some d, .call ⟨.value g, xs, tys⟩, ty, pos, after, g0⟩).run P w = .ok (.enter f (vs.toArray ++ cap)) w := by
    simp only [execOp, resolve, hf.ev hg, Deferred.ofValue, invoke, Sem.run_bind, Sem.run_pure, Result.andThen_ok, h2]
    rw [show #[] ++ vs.toArray = vs.toArray by simp]
    exact run_callFunc hc _ _
  simp only [Plan, wpOpIn, ho, hw, if_true, Oper.wpIn]
  rw [Oper.semAt_eq _ _ _ (by intro c h; cases h), hr]
  refine ⟨fun _ _ => trivial, ⟨fun h => (by cases h), callsIn_Fw (Calls.mono hs ?_)⟩⟩
  rintro en w' ⟨v, L', rfl, hz, hT'⟩
  refine ⟨.inl ⟨trivial, hlast⟩, k _ _ v L' hz ?_ hT'⟩
  subst hl
  exact hf.put d v (blt_lt hd)
theorem ef_callN_last {Z : Value → List Part → Prop} {g : Operand} {f : FuncId} {xs : Array Operand} {tys : Array TypeId} {cap : Array Value} {vs : List Value} {g0 : Option (Nat × Bool)} (hf : Fr N l D a)
    (ho : ops[i]? = some ⟨none, .call ⟨.value g, xs, tys⟩, ty, pos, after, g0⟩) (hw : Region.wanted (⟨none, .call ⟨.value g, xs, tys⟩, ty, pos, after, g0⟩ : Oper) (yielded ops a.tmps) = true) (hlast : (!dr || lastOf .any ops i) = true)
    (hg : ev l g = some (.func (.func f) #[] cap)) (hx : evs l xs.toList = some vs) (hc : canEnter P f = true)
    (hs : Spec P f (vs.toArray ++ cap) e w R Z)
    (k : ∀ w' v L', Z v L' → Tot e w' (L' ++ R) → K a w') : Plan P ro dr ops K S [(i, false)] a w := by
  have h2 : xs.map a.eval = vs.toArray := by rw [← hf.knows.evs hx]; apply Array.ext'; rw [Array.toList_map]
  have hr : (execOp a.eval ⟨none, .call ⟨.value g, xs, tys⟩, ty, pos, after, g0⟩).run P w = .ok (.enter f (vs.toArray ++ cap)) w := by
    simp only [execOp, resolve, hf.ev hg, Deferred.ofValue, invoke, Sem.run_bind, Sem.run_pure, Result.andThen_ok, h2]
    rw [show #[] ++ vs.toArray = vs.toArray by simp]
    exact run_callFunc hc _ _
  simp only [Plan, wpOpIn, ho, hw, if_true, Oper.wpIn]
  rw [Oper.semAt_eq _ _ _ (by intro c h; cases h), hr]
  refine ⟨fun _ _ => trivial, ⟨fun h => (by cases h), callsIn_Fw (Calls.mono hs ?_)⟩⟩
  rintro en w' ⟨v, L', rfl, hz, hT'⟩
  exact ⟨.inl ⟨trivial, hlast⟩, k _ v L' hz hT'⟩
end

/-! boxes, stores -/
theorem ef_box {T : TypeId} {x : Operand} {u : Value} (hx : ev l x = some u) : Ef P e l (.box T x) ty L R (fun v L' => ∃ b, v = .pointer (some ⟨b, 0, none⟩) ∧ L' = pt b (.cells u.cells T) :: L) := by
  intro a w ha hT dst pos after guard
  refine ⟨.pointer (some ⟨w.heap.size, 0, none⟩), w.alloc (.cells u.cells T), pt w.heap.size (.cells u.cells T) :: L, ?_, ⟨_, rfl, rfl⟩, hT.alloc _⟩
  simp only [execOp, Instr.box, newVar, newRow, newObj, ha.ev hx, Sem.run_bind, Sem.run_pure]
  rfl
theorem ef_alloc {T : TypeId} {z : Value} (hz : (P.info? T).map (·.zero) = some (some z)) : Ef P e l (.alloc T) ty L R (fun v L' => ∃ b, v = .pointer (some ⟨b, 0, none⟩) ∧ L' = pt b (.cells z.cells T) :: L) := by
  intro a w ha hT dst pos after guard
  obtain ⟨i, hi, hn⟩ := Option.map_eq_some_iff.1 hz
  refine ⟨.pointer (some ⟨w.heap.size, 0, none⟩), w.alloc (.cells z.cells T), pt w.heap.size (.cells z.cells T) :: L, ?_, ⟨_, rfl, rfl⟩, hT.alloc _⟩
  have hzz : (zeroValue T).run P w = .ok z w := by simp [zeroValue, typeInfo, program, Sem.run_bind, Sem.run, Result.andThen, hi, hn, pure]
  simp only [execOp, Instr.alloc, newVar, newRow, newObj, Sem.run_bind, Sem.run_pure, hzz]
  rfl
theorem ef_makeMap {T : TypeId} : Ef P e l (.makeMap T none) ty L R (fun v L' => ∃ b, v = .map (some b) ∧ L' = pt b (.map #[] 0) :: L) := by
  intro a w ha hT dst pos after guard
  refine ⟨.map (some w.heap.size), w.alloc (.map #[] 0), pt w.heap.size (.map #[] 0) :: L, ?_, ⟨_, rfl, rfl⟩, hT.alloc _⟩
  simp only [execOp, Instr.makeMap, newObj, Sem.run_bind, Sem.run_pure, Option.map_none]
  rfl
theorem run_store1 {P : Program} {t : TypeId} {w : World} {b off : Nat} {cs : Array Value} {T : TypeId} {L : List Part} {e : Env} {v : Value} (hs : (P.info? t).map (·.size) = some 1) (hv : v.oneCell' = true) (hT : Tot e w (pt b (.cells cs T) :: L)) (ho : off < cs.size) :
    (storeVar t ⟨b, off, none⟩ v).run P w = .ok () (w.setCell ⟨b, off, none⟩ v) := by
  obtain ⟨i, hi, hn⟩ := Option.map_eq_some_iff.1 hs
  have hz : (sizeOf t).run P w = .ok 1 w := by simp [sizeOf, typeInfo, program, Sem.run_bind, Sem.run, Result.andThen, hi, hn, pure, Sem.pure]
  have hb := hT.head b _ (pt_self b _)
  have hc : w.cell? ⟨b, off, none⟩ = some cs[off] := by simp [World.cell?, hb, ho]
  have hfz : w.frozen? ⟨b, off, none⟩ = false := by simp [World.frozen?, hb]
  have hcells : v.cells = #[v] := by cases v <;> simp_all [Value.oneCell', Value.cells]
  unfold storeVar
  simp only [Sem.run_bind, hz, Result.andThen_ok, hcells]
  simp [storeCells, Sem.run_bind, store, Result.andThen, Sem.run_pure, Addr.add]
  cases v <;> simp_all [Sem.run, Value.oneCell', pure, Sem.pure]
theorem ef_store {t T : TypeId} {x y : Operand} {b off : Nat} {cs : Array Value} {u : Value} (hx : ev l x = some (.pointer (some ⟨b, off, none⟩))) (hy : ev l y = some u) (hs : (P.info? t).map (·.size) = some 1) (hv : u.oneCell' = true) (ho : Nat.blt off cs.toList.length = true) :
    EfS P e l (.store t x y) ty (pt b (.cells cs T) :: L) R (fun L' => L' = pt b (.cells (cs.setIfInBounds off u) T) :: L) := by
  intro a w ha hT dst pos after guard
  have ho := blt_lt ho
  rw [Array.length_toList] at ho
  refine ⟨w.setCell ⟨b, off, none⟩ u, _, ?_, rfl, hT.setCell u⟩
  simp only [execOp, Instr.storeAt, ha.ev hx, ha.ev hy, Instr.sureAddr]
  simp [Sem.run_bind, Sem.run_pure, Result.andThen, run_store1 hs hv hT ho]
end

/-! ### Code -/
section
variable {P : Program} {ro : Option Nat} {Q : Exit → Act → World → Prop} {R L : List Part} {l l' : List (Nat × Value)} {D : List Deferred} {a : Act} {w : World} {N : Nat} {e : Env}
theorem wp_if {c : Operand} {x y : Code} {b : Bool} (hf : Fr N l D a) (hc : ev l c = some (.bool b)) (ht : b = true → x.wpIn (Fw ro) 0 P Q a w) (hF : b = false → y.wpIn (Fw ro) 0 P Q a w) : (Code.cond c x y).wpIn (Fw ro) 0 P Q a w :=
  wpIn_cond_split (hf.ev hc) ht hF
theorem wp_ifd {c : Operand} {x y : Code} {p : Prop} [Decidable p] (hf : Fr N l D a) (hc : ev l c = some (.bool (decide p))) (ht : p → x.wpIn (Fw ro) 0 P Q a w) (hF : ¬p → y.wpIn (Fw ro) 0 P Q a w) : (Code.cond c x y).wpIn (Fw ro) 0 P Q a w :=
  wpIn_cond_split (hf.ev hc) (fun h => ht (of_decide_eq_true h)) (fun h => hF (of_decide_eq_false h))
theorem wp_ifT {c : Operand} {x y : Code} (hf : Fr N l D a) (hc : ev l c = some (.bool true)) (ht : x.wpIn (Fw ro) 0 P Q a w) : (Code.cond c x y).wpIn (Fw ro) 0 P Q a w := wpIn_cond_true (hf.ev hc) ht
theorem wp_ifF {c : Operand} {x y : Code} (hf : Fr N l D a) (hc : ev l c = some (.bool false)) (ht : y.wpIn (Fw ro) 0 P Q a w) : (Code.cond c x y).wpIn (Fw ro) 0 P Q a w := wpIn_cond_false (hf.ev hc) ht

theorem wp_ifTT {c : Operand} {x y : Code} {b : Bool} (hf : Fr N l D a) (hc : ev l c = some (.bool b)) (hb : b = true) (ht : x.wpIn (Fw ro) 0 P Q a w) : (Code.cond c x y).wpIn (Fw ro) 0 P Q a w := wpIn_cond_true (hf.ev (hb ▸ hc)) ht
theorem wp_ifFF {c : Operand} {x y : Code} {b : Bool} (hf : Fr N l D a) (hc : ev l c = some (.bool b)) (hb : b = false) (ht : y.wpIn (Fw ro) 0 P Q a w) : (Code.cond c x y).wpIn (Fw ro) 0 P Q a w := wpIn_cond_false (hf.ev (hb ▸ hc)) ht
theorem then_exit {K : Act → World → Prop} {id : Nat} (h : Q (.exit id) a w) : Exit.then K Q (.exit id) a w := h
theorem inBlock_hit {id : Nat} (h : Q .normal a w) : Exit.inBlock id Q (.exit id) a w := by simp [Exit.inBlock, h]
theorem inBlock_miss {id id' : Nat} (hne : id' ≠ id) (h : Q (.exit id') a w) : Exit.inBlock id Q (.exit id') a w := by simp [Exit.inBlock, hne, h]
/-- A loop, by an invariant over whatever states s there are, and a measure. -/
theorem wp_loopS {σ : Type} {c : Code} (l : σ → List (Nat × Value)) (lc : List (Nat × Value)) (I : σ → List Part → Prop) (m : σ → Nat) (s0 : σ) (hf : Fr N (l s0 ++ lc) D a) (hI : I s0 L) (hT : Tot e w (L ++ R))
    (round : ∀ s a w L, Fr N (l s ++ lc) D a → I s L → Tot e w (L ++ R) → c.wpIn (Fw ro) 0 P (Exit.then (fun a' w' => ∃ s' L', Fr N (l s' ++ lc) D a' ∧ I s' L' ∧ Tot e w' (L' ++ R) ∧ m s' < m s) Q) a w) : (Code.loop c).wpIn (Fw ro) 0 P Q a w := by
  let J : Nat → Act → World → Prop := fun n a w => ∃ s L, Fr N (l s ++ lc) D a ∧ I s L ∧ Tot e w (L ++ R) ∧ m s = n
  have key : ∀ n a w, J n a w → ∀ (b : Frame) (k : List Item) (cs : List Frame), b.roundOf = (Fw ro).round → (Fw ro).fn b.fn → (Fw ro).room (cs.length + 1 + 0) →
      ∃ ex a' w', Q ex a' w' ∧ ArrivesIn (Machine.fenced P (Fw ro)) P (lone (b.atR a (.code c :: .inLoop c :: k)) cs w) b k cs ex a' w' := by
    intro n
    induction n using Nat.strongRecOn with
    | _ n ih =>
      intro a w hJ b k cs hro hb hr
      obtain ⟨s, L, h1, h2, h3, h4⟩ := hJ
      obtain ⟨ex, a₁, w₁, hq, harr⟩ := round s a w L h1 h2 h3 b (.inLoop c :: k) cs hro hb hr
      cases ex with
      | normal =>
        obtain ⟨s', L', g1, g2, g3, g4⟩ := hq
        obtain ⟨e₂, a₂, w₂, hq₂, harr₂⟩ := ih (m s') (h4 ▸ g4) a₁ w₁ ⟨s', L', g1, g2, g3, rfl⟩ b k cs hro hb hr
        exact ⟨e₂, a₂, w₂, hq₂, .of_steps (StepsIn.trans harr (.one (fenced_calm hb hr rfl) stepR_inLoop)) harr₂⟩
      | exit id => exact ⟨_, a₁, w₁, hq, .pass (x := .inLoop c) rfl (fun _ _ => .inl (by simp)) harr⟩
      | goto l => exact ⟨_, a₁, w₁, hq, .pass (x := .inLoop c) rfl (fun _ _ => .inl (by simp)) harr⟩
      | ret => exact ⟨_, a₁, w₁, hq, .pass (x := .inLoop c) rfl (fun _ _ => .inl (by simp)) harr⟩
      | panic ch => exact ⟨_, a₁, w₁, hq, .pass (x := .inLoop c) rfl (fun _ _ => .inl (by simp)) harr⟩
      | outgrown => exact ⟨_, a₁, w₁, hq, .pass (x := .inLoop c) rfl (fun _ _ => .inl (by simp)) harr⟩
  intro b k cs hro hb hr
  obtain ⟨ex, a', w', hq, harr⟩ := key _ a w ⟨s0, L, hf, hI, hT, rfl⟩ b k cs hro hb hr
  exact ⟨ex, a', w', hq, .of_steps (.one (fenced_calm hb hr rfl) stepR_loop) harr⟩

/-- What a function's body must reach. -/
def Body (P : Program) (fn : Func) (e : Env) (R : List Part) (Z : Value → List Part → Prop) : Exit → Act → World → Prop :=
  bodyPostM (Fw none) 0 P fn fun en w' => ∃ v L', en = .returned v ∧ Z v L' ∧ Tot e w' (L' ++ R)
def params (i : Nat) : List Value → List (Nat × Value)
  | [] => []
  | v :: vs => (i, v) :: params (i + 1) vs
theorem params_get : ∀ {vs : List Value} {i : Nat} {p : Nat × Value}, p ∈ params i vs → ∃ j, p.1 = i + j ∧ vs[j]? = some p.2
  | [], i, p, h => by simp [params] at h
  | v :: vs, i, p, h => by
    rcases List.mem_cons.1 h with rfl | h
    · exact ⟨0, rfl, rfl⟩
    · obtain ⟨j, h1, h2⟩ := params_get h
      exact ⟨j + 1, by omega, by simpa using h2⟩
theorem spec_body {f : FuncId} {fn : Func} {c : Code} {vs : List Value} {Z : Value → List Part → Prop} (hfn : P.funcs[f]? = some fn) (hb : fn.body = some c) (hN : fn.ntmps = N) (hle : Nat.ble vs.length N = true) {l : List (Nat × Value)} (hl : params 0 vs = l)
    (h : ∀ a, Fr N l [] a → c.wpIn (Fw none) 0 P (Body P fn e R Z) a w) : Spec P f vs.toArray e w R Z := by
  refine calls_of_Fw (callsIn_of_wp_marks hfn hb trivial (h _ ⟨?_, rfl, ?_⟩))
  · have := Nat.le_of_ble_eq_true hle
    simp [hN]; omega
  · intro p hp
    subst hl
    obtain ⟨j, h1, h2⟩ := params_get hp
    have hj := (List.getElem?_eq_some_iff.1 h2).1
    obtain ⟨t, v⟩ := p
    simp only [Nat.zero_add] at h1 h2
    subst h1
    rw [Array.getElem?_append_left (by simpa using hj)]
    simpa using h2
def resl (l : List (Nat × Value)) : List ResultVar → Option (List Value)
  | [] => some []
  | .tmp t :: rs => match lk l t, resl l rs with
    | some v, some vs => some (v :: vs)
    | _, _ => none
  | .cell _ _ :: _ => none
def retv : List Value → Value
  | [v] => v
  | vs => .tuple vs.toArray
theorem run_resl (hk : Knows l a) {g : ResultVar → Sem Value} (hg : ∀ t, g (.tmp t) = pure (a.tmps.getD t undef)) : ∀ {rs : List ResultVar} {vs : List Value}, resl l rs = some vs →
    (rs.mapM g).run P w = .ok vs w
  | [], vs, h => by simp [resl] at h; subst h; simp [Sem.run_pure]
  | .tmp t :: rs, vs, h => by
    simp only [resl] at h
    split at h
    · rename_i v vs' h1 h2
      simp at h; subst h
      have h3 := hk _ (lk_mem h1)
      simp only at h3
      rw [List.mapM_cons, Sem.run_bind, hg]
      simp only [Sem.run_pure, Result.andThen_ok]
      rw [Sem.run_bind, run_resl hk hg h2]
      simp [Result.andThen, Sem.run_pure, h3]
    · cases h
  | .cell _ _ :: rs, vs, h => by simp [resl] at h
theorem run_results {fn : Func} {rs : List ResultVar} (hr : fn.results = rs.toArray) {vs : List Value} (hk : Knows l a) (h : resl l rs = some vs) : (results fn a.tmps).run P w = .ok (retv vs) w := by
  unfold results
  rw [hr, List.mapM_toArray]
  simp only [Sem.run_bind, map_eq_pure_bind]
  rw [run_resl hk (fun t => rfl) h]
  simp only [Result.andThen_ok, Sem.run_pure]
  match vs with
  | [] => simp [retv]
  | [v] => simp [retv]
  | v :: u :: vs => simp [retv]
theorem body_ret {fn : Func} {Z : Value → List Part → Prop} {rs : List ResultVar} {vs : List Value} (hf : Fr N l [] a) (hT : Tot e w (L ++ R)) (hr : fn.results = rs.toArray) (h : resl l rs = some vs) (hz : Z (retv vs) L) : Body P fn e R Z .ret a w := by
  show LeavesInM _ _ _ _ _ _ _ _ _
  rw [hf.dfr]
  exact ⟨_, run_results hr hf.knows h, _, L, rfl, hz, hT⟩
theorem body_end {fn : Func} {Z : Value → List Part → Prop} {rs : List ResultVar} {vs : List Value} (hf : Fr N l [] a) (hT : Tot e w (L ++ R)) (hr : fn.results = rs.toArray) (h : resl l rs = some vs) (hz : Z (retv vs) L) : Body P fn e R Z .normal a w := body_ret hf hT hr h hz
theorem wp_retn {fn : Func} {Z : Value → List Part → Prop} {rs : List ResultVar} {vs : List Value} (hf : Fr N l [] a) (hT : Tot e w (L ++ R)) (hr : fn.results = rs.toArray) (h : resl l rs = some vs) (hz : Z (retv vs) L) : Code.ret.wpIn (Fw none) 0 P (Body P fn e R Z) a w :=
  wpIn_ret (body_ret hf hT hr h hz)
end
end Go.Proofs.Ytjhbgciocffihaa
