/-
  Own words, part 14: unsigned 32-bit words: shifts, or, and.
-/
import Derived.Test.YtjhbgciocffihaaK13
set_option linter.unusedVariables false
set_option linter.unusedSimpArgs false
namespace Go.Proofs.Ytjhbgciocffihaa

section
variable {P : Program} {R : List Part} {l : List (Nat × Value)} {ty : TypeId}
theorem run_bin2 (op : BinOp) (t : TypeId) (x y : Operand) (k k' : IntKind) (p q : Int) (w : World) : (eqGuard op t x y (.int k p) (.int k' q)).run P w = .ok () w := by
  unfold eqGuard
  cases op <;> simp [Sem.run_pure]
theorem wrap_u32 {n : Nat} (h : n < 4294967296) : IntKind.u32.wrap (n : Int) = (n : Int) := by
  simp only [IntKind.wrap, IntKind.bits, IntKind.signed]
  simp
  omega
theorem yl_shl1 {t u : TypeId} {x y : Operand} {j : Int} (n : Nat) (hx : ev l x = some (.int .u32 1)) (hy : ev l y = some (.int .i64 j)) (hj : j = (n : Int)) (hn : n < 32) : Yl P R l (.binOp .shl t x y u) ty (.int .u32 ((2 ^ n : Nat) : Int)) := by
  intro a w ha hw dst pos after guard
  simp only [execOp, ha.ev hx, ha.ev hy]
  rw [Sem.run_bind, Sem.run_bind, run_bin2]
  subst hj
  have h1 : ¬ ((n : Int) < 0) := by omega
  have h2 : min n 32 = n := by omega
  have h3 : (1 : Int) * 2 ^ n = ((2 ^ n : Nat) : Int) := by rw [Int.one_mul, Int.natCast_pow]; rfl
  have h4 : 2 ^ n < 4294967296 := Nat.pow_lt_pow_right (a := 2) (m := n) (n := 32) (by decide) hn
  simp only [binOp, Op.shift, if_neg h1, Int.toNat_natCast, IntKind.bits, h2, h3, wrap_u32 h4, Result.andThen, Sem.run_pure]
theorem yl_shr {t u : TypeId} {x y : Operand} {j p : Int} (n : Nat) (hx : ev l x = some (.int .u32 p)) (hy : ev l y = some (.int .i64 j)) (b : Nat) (hp : p = (b : Int)) (hj : j = (n : Int)) (hn : n < 32) : Yl P R l (.binOp .shr t x y u) ty (.int .u32 ((b >>> n : Nat) : Int)) := by
  intro a w ha hw dst pos after guard
  simp only [execOp, ha.ev hx, ha.ev hy]
  rw [Sem.run_bind, Sem.run_bind, run_bin2]
  subst hj
  subst hp
  have h1 : ¬ ((n : Int) < 0) := by omega
  have h2 : min n 32 = n := by omega
  have h3 : (b : Int).fdiv (2 ^ n) = ((b >>> n : Nat) : Int) := by
    rw [Nat.shiftRight_eq_div_pow, Int.natCast_ediv, Int.fdiv_eq_ediv_of_nonneg _ (by exact Int.le_of_lt (Int.pow_pos (by decide))), Int.natCast_pow]; rfl
  simp only [binOp, Op.shift, if_neg h1, Int.toNat_natCast, IntKind.bits, h2, h3, Result.andThen, Sem.run_pure]
theorem ofInt_nat (b : Nat) : BitVec.ofInt 32 (b : Int) = BitVec.ofNat 32 b := by
  apply BitVec.eq_of_toNat_eq
  rw [BitVec.toNat_ofInt, BitVec.toNat_ofNat]
  omega
theorem yl_or {t u : TypeId} {x y : Operand} {p q : Int} (hx : ev l x = some (.int .u32 p)) (hy : ev l y = some (.int .u32 q)) (b c : Nat) (hp : p = (b : Int)) (hq : q = (c : Int)) (hb : b < 4294967296) (hc : c < 4294967296) : Yl P R l (.binOp .or t x y u) ty (.int .u32 ((b ||| c : Nat) : Int)) := by
  intro a w ha hw dst pos after guard
  simp only [execOp, ha.ev hx, ha.ev hy]
  rw [Sem.run_bind, Sem.run_bind, run_bin]
  subst hp
  subst hq
  have h4 : b ||| c < 4294967296 := Nat.or_lt_two_pow (n := 32) hb hc
  have h5 : (BitVec.ofNat 32 b ||| BitVec.ofNat 32 c).toNat = b ||| c := by
    rw [BitVec.toNat_or, BitVec.toNat_ofNat, BitVec.toNat_ofNat, Nat.mod_eq_of_lt (by omega), Nat.mod_eq_of_lt (by omega)]
  simp only [binOp, Op.intBits, IntKind.bits, Result.andThen, ne_eq, not_true, if_false]
  simp [Sem.run_pure, Result.andThen, Sem.run_bind]
  exact (congrArg (fun n : Nat => IntKind.u32.wrap (n : Int)) h5).trans (wrap_u32 h4)
theorem yl_and {t u : TypeId} {x y : Operand} {p q : Int} (hx : ev l x = some (.int .u32 p)) (hy : ev l y = some (.int .u32 q)) (b c : Nat) (hp : p = (b : Int)) (hq : q = (c : Int)) (hb : b < 4294967296) (hc : c < 4294967296) : Yl P R l (.binOp .and t x y u) ty (.int .u32 ((b &&& c : Nat) : Int)) := by
  intro a w ha hw dst pos after guard
  simp only [execOp, ha.ev hx, ha.ev hy]
  rw [Sem.run_bind, Sem.run_bind, run_bin]
  subst hp
  subst hq
  have h4 : b &&& c < 4294967296 := Nat.lt_of_le_of_lt Nat.and_le_left hb
  have h5 : (BitVec.ofNat 32 b &&& BitVec.ofNat 32 c).toNat = b &&& c := by
    rw [BitVec.toNat_and, BitVec.toNat_ofNat, BitVec.toNat_ofNat, Nat.mod_eq_of_lt (by omega), Nat.mod_eq_of_lt (by omega)]
  simp only [binOp, Op.intBits, IntKind.bits, Result.andThen, ne_eq, not_true, if_false]
  simp [Sem.run_pure, Result.andThen, Sem.run_bind]
  exact (congrArg (fun n : Nat => IntKind.u32.wrap (n : Int)) h5).trans (wrap_u32 h4)
end
section
variable {P : Program} {R L : List Part} {l : List (Nat × Value)} {ty : TypeId} {e : Env}
/-- A whole element of an own slice is stored. -/
theorem ef_storeElA {α : Type} {E : Enc α} {t T : TypeId} {x y : Operand} {v : Value} {xs : List α} {X : Part} (j : Nat) {a' : α} {u : Value} (hx : ev l x = some (.pointer (some ⟨blk v, offs v + j * E.sz, none⟩))) (hy : ev l y = some u)
    (hs : (P.info? t).map (·.size) = some E.sz) (hu : u.cells.toList = E.cells a') (hS : Sl E T v xs X) (hjl : j < xs.length) :
    EfS P e l (.store t x y) ty (X :: L) R (fun L' => ∃ X', Sl E T v (xs.set j a') X' ∧ L' = X' :: L) := by
  rcases hS with ⟨_, rfl, _⟩ | ⟨b, c, cs, rfl, rfl, h1, h2, h3, h4⟩
  · simp at hjl
  · have hin : j * E.sz + E.sz ≤ xs.length * E.sz := by
      have := Nat.mul_le_mul_right E.sz (show j + 1 ≤ xs.length by omega)
      rw [Nat.add_mul, Nat.one_mul] at this; omega
    have hin2 : xs.length * E.sz ≤ c * E.sz := Nat.mul_le_mul_right _ h1
    have hul : u.cells.toList.length = E.sz := by rw [hu, E.len]
    have hcl : cs.toList.length = cs.size := rfl
    intro w0 w ha' hT dst pos after guard
    have hble : Nat.ble (0 + j * E.sz + E.sz) cs.toList.length = true := by
      rw [Nat.ble_eq, hcl]; omega
    obtain ⟨w', L', hr, rfl, hT'⟩ := ef_storeA (P := P) (e := e) (l := l) (ty := ty) (L := L) (R := R) (T := T) (cs := cs) hx hy hs hul hble (by rw [hu]; exact List.all_eq_true.2 fun q hq => E.one _ q hq) w0 w ha' hT dst pos after guard
    have hA : (E.all (xs.take j)).length = j * E.sz := by rw [E.all_length, List.length_take, Nat.min_eq_left (by omega)]
    have hxs : xs = xs.take j ++ xs[j] :: xs.drop (j + 1) := by rw [← List.drop_eq_getElem_cons hjl, List.take_append_drop]
    have hall : ∀ z : α, E.all (xs.take j ++ z :: xs.drop (j + 1)) = E.all (xs.take j) ++ (E.cells z ++ E.all (xs.drop (j + 1))) := fun z => by
      rw [E.all_append]; rfl
    have hset : xs.set j a' = xs.take j ++ a' :: xs.drop (j + 1) := by rw [List.set_eq_take_append_cons_drop, if_pos hjl]
    have hcs : cs.toList = E.all (xs.take j) ++ (E.cells xs[j] ++ (E.all (xs.drop (j + 1)) ++ cs.toList.drop (xs.length * E.sz))) := by
      have h5 := hall xs[j]
      rw [← hxs] at h5
      rw [← List.append_assoc (E.cells _), ← List.append_assoc, ← h5, ← h4, List.take_append_drop]
    have hspl : splice cs.toList (0 + j * E.sz) u.cells.toList = E.all (xs.set j a') ++ cs.toList.drop (xs.length * E.sz) := by
      rw [hset, hall, hu]
      unfold splice
      rw [Nat.zero_add, E.len]
      conv => lhs; rw [hcs]
      rw [List.take_left' hA, List.drop_append, hA, show (E.all (xs.take j)).drop (j * E.sz + E.sz) = [] from List.drop_of_length_le (by rw [hA]; omega), List.nil_append, show j * E.sz + E.sz - j * E.sz = E.sz by omega, List.drop_left' (E.len _)]
      simp only [List.append_assoc]
    refine ⟨w', _, hr, ⟨_, .inr ⟨b, c, _, by rw [List.length_set], rfl, by rw [List.length_set]; exact h1, h2, ?_, ?_⟩, rfl⟩, hT'⟩
    · show (splice cs.toList (0 + j * E.sz) u.cells.toList).length = _
      rw [hspl, List.length_append, E.all_length, List.length_set, List.length_drop, hcl]; omega
    · show (splice cs.toList (0 + j * E.sz) u.cells.toList).take _ = _
      rw [hspl, List.take_left' (by rw [E.all_length])]
end
end Go.Proofs.Ytjhbgciocffihaa
