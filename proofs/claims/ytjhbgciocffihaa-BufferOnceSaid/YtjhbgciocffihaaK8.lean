/- Own words, part 8: equality of structs; conversions. -/
import Derived.Test.YtjhbgciocffihaaK7
import Derived.Laws.StructEq
set_option linter.unusedVariables false
set_option linter.unusedSimpArgs false
namespace Go.Proofs.Ytjhbgciocffihaa
/-- x == y at type t is r, k levels deep at most. -/
def EqV (P : Program) (k : Nat) (t : TypeId) (x y : Value) (r : Bool) : Prop := ∀ d w, (Op.equalIn (d + k) t x y).run P w = .ok r w
def EqFs (P : Program) (k : Nat) (xs ys : Array Value) (fs : List Field) (r : Bool) : Prop := ∀ d w, (Op.eqFields (d + k) xs ys fs).run P w = .ok r w
section
variable {P : Program} {R L : List Part} {l : List (Nat × Value)} {ty : TypeId} {e : Env}
theorem eqv_int {t : TypeId} {k : IntKind} (hu : P.underlying t = some (.int k)) (j : Nat) (p q : Int) : EqV P (j + 1) t (.int k p) (.int k q) (decide (p = q)) := fun d w => by
  rw [← Nat.add_assoc, run_eqIn_int hu]; congr 1
theorem eqv_bool {t : TypeId} (hu : P.underlying t = some .bool) (j : Nat) (p q : Bool) : EqV P (j + 1) t (.bool p) (.bool q) (decide (p = q)) := fun d w => by
  rw [← Nat.add_assoc, run_eqIn_bool hu]; cases p <;> cases q <;> rfl
theorem eqf_nil {k : Nat} {xs ys : Array Value} : EqFs P k xs ys [] true := fun d w => by simp [Op.eqFields, Sem.run_pure]
theorem eqf_cons {k : Nat} {xs ys : Array Value} {f : Field} {fs : List Field} {a b : Value} {r q : Bool} {dt : TypeDesc} (hn : f.name ≠ "_") (hd : P.underlying f.type = some dt) (hd' : TypeDesc.agg? dt = false) (ha : nth xs.toList f.offset = some a) (hb : nth ys.toList f.offset = some b)
    (he : EqV P k f.type a b r) (hr : EqFs P k xs ys fs q) : EqFs P k xs ys (f :: fs) (r && q) := fun d w => by
  rw [nth_eq, Array.getElem?_toList] at ha hb
  simp only [Op.eqFields]
  rw [if_pos hn]
  simp only [Sem.run_bind, part, run_isAgg hd, hd', Result.andThen_ok, Bool.false_eq_true, if_false, ha, hb, Sem.run_pure, he d w]
  cases r
  · simp [Sem.run_pure]
  · simpa using hr d w
theorem eqf_consA {k : Nat} {xs ys : Array Value} {f : Field} {fs : List Field} {r q : Bool} {dt : TypeDesc} {n : Nat} {us vs : List Value} (hn : f.name ≠ "_") (hd : P.underlying f.type = some dt) (hd' : TypeDesc.agg? dt = true) (hs : (P.info? f.type).map (·.size) = some n)
    (ha : (xs.toList.drop f.offset).take n = us) (hb : (ys.toList.drop f.offset).take n = vs) (he : EqV P k f.type (.agg us.toArray) (.agg vs.toArray) r) (hr : EqFs P k xs ys fs q) : EqFs P k xs ys (f :: fs) (r && q) := fun d w => by
  have hx : xs.extract f.offset (f.offset + n) = us.toArray := by rw [← ha]; apply Array.ext'; simp [List.take_drop, Nat.add_comm]
  have hy : ys.extract f.offset (f.offset + n) = vs.toArray := by rw [← hb]; apply Array.ext'; simp [List.take_drop, Nat.add_comm]
  obtain ⟨i, hi, hz0⟩ := Option.map_eq_some_iff.1 hs
  have hz : ∀ w, (sizeOf f.type).run P w = .ok n w := fun w => by simp [sizeOf, typeInfo, program, Sem.run_bind, Sem.run, Result.andThen, hi, hz0, pure, Sem.pure]
  simp only [Op.eqFields]
  rw [if_pos hn]
  simp only [Sem.run_bind, part, run_isAgg hd, hd', Result.andThen_ok, if_true, hz, hx, hy, Sem.run_pure, he d w]
  cases r
  · simp [Sem.run_pure]
  · simpa using hr d w
theorem eqv_struct {k : Nat} {t : TypeId} {fs : Array Field} {xs ys : Array Value} {r : Bool} (hu : P.underlying t = some (.struct fs)) (hp : P.stoodInHeld t = false) (h : EqFs P k xs ys fs.toList r) : EqV P (k + 1) t (.agg xs) (.agg ys) r := fun d w => by
  have hf : P.fieldsOf t = fs := by simp [Program.fieldsOf, hu]
  rw [← Nat.add_assoc, run_equalIn_struct w (d + k) t xs ys (by rw [hf]; exact hu) hp, hf]
  exact h d w
theorem yl_aggEq {op : BinOp} {t u : TypeId} {x y : Operand} {xs ys : Array Value} {k : Nat} {r0 : Bool} (hx : ev l x = some (.agg xs)) (hy : ev l y = some (.agg ys)) (hm : P.eqGuardType P.depth t = false) (hk : Nat.ble k 10000 = true) (he : EqV P k t (.agg xs) (.agg ys) r0) {r : Bool}
    (ho : (match op with | .eql => some r0 | .neq => some (!r0) | _ => none) = some r) : Yl P R l (.binOp op t x y u) ty (.bool r) := by
  intro a w ha hw dst pos after guard
  have hk := Nat.le_of_ble_eq_true hk
  have h := he (10000 - k) w
  rw [Nat.sub_add_cancel hk] at h
  have hg := run_eqGuard_agg (P := P) w op t x y xs ys hm
  simp only [execOp, ha.ev hx, ha.ev hy]
  rw [Sem.run_bind, Sem.run_bind, hg]
  cases op <;> first
    | (cases ho; done)
    | (cases ho; simp only [run_eql_struct, run_neq_struct, h, Result.andThen_ok, Sem.run_pure])
end
end Go.Proofs.Ytjhbgciocffihaa
