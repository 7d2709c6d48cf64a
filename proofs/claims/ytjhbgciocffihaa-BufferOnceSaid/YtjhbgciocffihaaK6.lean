/-
  Own words, part 6: tests against nil; 'copy', 'make' and 'append(s, make(..)...)'; a call of the library's function without a body; multi-cell stores.
-/
import Derived.Test.YtjhbgciocffihaaK5
import Derived.Lib.Overlaps
set_option linter.unusedVariables false
set_option linter.unusedSimpArgs false
namespace Go.Proofs.Ytjhbgciocffihaa

theorem run_eqIn_ptr {P : Program} {t el : TypeId} (hu : P.underlying t = some (.pointer el)) (d : Nat) (p : Option Addr) (w : World) : (Op.equalIn (d + 1) t (.pointer p) (.pointer none)).run P w = .ok p.isNone w := by
  unfold Op.equalIn
  rw [Sem.run_bind, run_underlying' hu]
  cases p <;> simp [Sem.run_pure]
theorem run_eqIn_map {P : Program} {t k el : TypeId} (hu : P.underlying t = some (.map k el)) (d : Nat) (p : Option Nat) (w : World) : (Op.equalIn (d + 1) t (.map p) (.map none)).run P w = .ok p.isNone w := by
  unfold Op.equalIn
  rw [Sem.run_bind, run_underlying' hu]
  cases p <;> simp [Sem.run_pure]
theorem run_eqIn_bool {P : Program} {t : TypeId} (hu : P.underlying t = some .bool) (d : Nat) (p q : Bool) (w : World) : (Op.equalIn (d + 1) t (.bool p) (.bool q)).run P w = .ok (p == q) w := by
  unfold Op.equalIn
  rw [Sem.run_bind, run_underlying' hu]
  simp [Sem.run_pure]
theorem run_eqIn_int {P : Program} {t : TypeId} {k : IntKind} (hu : P.underlying t = some (.int k)) (d : Nat) (p q : Int) (w : World) : (Op.equalIn (d + 1) t (.int k p) (.int k q)).run P w = .ok (p == q) w := by
  unfold Op.equalIn
  rw [Sem.run_bind, run_underlying' hu]
  simp [Sem.run_pure]
theorem run_eqIn_string {P : Program} {t : TypeId} (hu : P.underlying t = some .string) (d : Nat) (p q : ByteArray) (w : World) : (Op.equalIn (d + 1) t (.string p) (.string q)).run P w = .ok (p == q) w := by
  unfold Op.equalIn
  rw [Sem.run_bind, run_underlying' hu]
  simp [Sem.run_pure]
section
variable {P : Program} {R L : List Part} {l : List (Nat × Value)} {ty : TypeId} {e : Env}
theorem yl_ptrNil {op : BinOp} {t u el : TypeId} {x y : Operand} {p : Option Addr} (hx : ev l x = some (.pointer p)) (hy : ev l y = some (.pointer none)) (hu : P.underlying t = some (.pointer el)) {r : Bool}
    (ho : (match op with | .eql => some p.isNone | .neq => some (!p.isNone) | _ => none) = some r) : Yl P R l (.binOp op t x y u) ty (.bool r) := by
  intro a w ha hw dst pos after guard
  have h := run_eqIn_ptr hu 9999 p w
  have hg : (eqGuard op t x y (.pointer p) (.pointer none)).run P w = .ok () w := by unfold eqGuard; cases op <;> simp [Sem.run_pure]
  simp only [execOp, ha.ev hx, ha.ev hy]
  rw [Sem.run_bind, Sem.run_bind, hg]
  cases op <;> first
    | (cases ho; done)
    | (cases ho; simp only [binOp, Op.equal, Op.maxDepth, Result.andThen_ok, Sem.run_bind, Sem.run_pure, h])
theorem yl_mapNil {op : BinOp} {t u k el : TypeId} {x y : Operand} {p : Option Nat} (hx : ev l x = some (.map p)) (hy : ev l y = some (.map none)) (hu : P.underlying t = some (.map k el)) {r : Bool}
    (ho : (match op with | .eql => some p.isNone | .neq => some (!p.isNone) | _ => none) = some r) : Yl P R l (.binOp op t x y u) ty (.bool r) := by
  intro a w ha hw dst pos after guard
  have h := run_eqIn_map hu 9999 p w
  have hg : (eqGuard op t x y (.map p) (.map none)).run P w = .ok () w := by unfold eqGuard; cases op <;> simp [Sem.run_pure]
  simp only [execOp, ha.ev hx, ha.ev hy]
  rw [Sem.run_bind, Sem.run_bind, hg]
  cases op <;> first
    | (cases ho; done)
    | (cases ho; simp only [binOp, Op.equal, Op.maxDepth, Result.andThen_ok, Sem.run_bind, Sem.run_pure, h])
theorem yl_boolEq {op : BinOp} {t u : TypeId} {x y : Operand} {p q : Bool} (hx : ev l x = some (.bool p)) (hy : ev l y = some (.bool q)) (hu : P.underlying t = some .bool) {r : Bool}
    (ho : (match op with | .eql => some (p == q) | .neq => some (!(p == q)) | _ => none) = some r) : Yl P R l (.binOp op t x y u) ty (.bool r) := by
  intro a w ha hw dst pos after guard
  have h := run_eqIn_bool hu 9999 p q w
  have hg : (eqGuard op t x y (.bool p) (.bool q)).run P w = .ok () w := by unfold eqGuard; cases op <;> simp [Sem.run_pure]
  simp only [execOp, ha.ev hx, ha.ev hy]
  rw [Sem.run_bind, Sem.run_bind, hg]
  cases op <;> first
    | (cases ho; done)
    | (cases ho; simp only [binOp, Op.equal, Op.maxDepth, Result.andThen_ok, Sem.run_bind, Sem.run_pure, h])
theorem yl_cap {x : Operand} {t : TypeId} {e : TypeId} {A : Option Addr} {n c : Nat} (hx : ev l x = some (.slice A n c)) (hu : P.underlying t = some (.slice e)) : Yl P R l (.call ⟨.builtin .cap, #[x], #[t]⟩) ty (.int .i64 c) := by
  intro a w ha hw dst pos after guard
  simp [execOp, resolve, invoke, builtin, Builtin.cap_, ha.ev hx, Sem.run_bind, Sem.run_pure, Result.andThen, run_underlying' hu, goInt]
theorem yl_minmax {b : Builtin} {x y : Operand} {tys : Array TypeId} {k : IntKind} {p q : Int} (hx : ev l x = some (.int k p)) (hy : ev l y = some (.int k q)) {r : Int}
    (hb : (match b with | .min => some (if q < p then q else p) | .max => some (if p < q then q else p) | _ => none) = some r) : Yl P R l (.call ⟨.builtin b, #[x, y], tys⟩) ty (.int k r) := by
  intro a w ha hw dst pos after guard
  cases b <;> simp at hb <;> simp [execOp, resolve, invoke, builtin, Builtin.max_, Builtin.min_, Builtin.max2, Builtin.min2, ha.ev hx, ha.ev hy, Sem.run_bind, Sem.run_pure, hb, GT.gt]

/-! rows of cells -/
theorem setRow_put {w : World} {b : Nat} {cs : Array Value} {T : TypeId} (h : w.heap[b]? = some (.cells cs T (0, 0))) (cs' : Array Value) : w.setRow b cs' = { w with heap := w.heap.setIfInBounds b (.cells cs' T (0, 0)) } := by
  have hlt := (Array.getElem?_eq_some_iff.1 h).1
  unfold World.setRow
  refine congrArg (fun H => ({ w with heap := H } : World)) (Array.ext (by simp) fun i h1 h2 => ?_)
  rw [Array.getElem_modify]
  by_cases hi : b = i
  · subst hi
    have : w.heap[b] = .cells cs T (0, 0) := (Array.getElem?_eq_some_iff.1 h).2
    simp [this]
  · rw [Array.getElem_setIfInBounds (by simpa using h2)]
    simp [hi]
theorem RowIn.run {b o : Nat} {vs : List Value} (h : RowIn R b o vs) {w : World} (hw : HasAll w R) : (loadCells ⟨b, o, none⟩ vs.length).run P w = .ok vs.toArray w :=
  run_loadCells_list (P := P) (w := w) ⟨b, o, none⟩ vs fun j v hj => by rw [add_at]; exact (h j v hj).at_ hw
theorem run_storeCells {w : World} {b o : Nat} {cs : Array Value} {T : TypeId} {vs : List Value} (hT : Tot e w (pt b (.cells cs T) :: L)) (hfit : o + vs.length ≤ cs.size) (h1 : ∀ v ∈ vs, v.oneCell' = true) :
    ∃ w', (storeCells ⟨b, o, none⟩ vs).run P w = .ok () w' ∧ Tot e w' (pt b (.cells (splice cs.toList o vs).toArray T) :: L) := by
  have hb := hT.head b _ (pt_self b _)
  have := run_storeCells_at P b o T vs 0 cs w hb (by simpa using hfit) h1
  simp only [Nat.add_zero] at this
  exact ⟨_, this, by rw [setRow_put hb]; exact hT.put _⟩
/-- copy(dst, src), the destination a part of a row of one's own. -/
theorem ef_copy {x y : Operand} {b o dn dc sb so sn sc k : Nat} {cs : Array Value} {T t u el : TypeId} {src : List Value} {sz : Nat} (hx : ev l x = some (.slice (some ⟨b, o, none⟩) dn dc)) (hy : ev l y = some (.slice (some ⟨sb, so, none⟩) sn sc))
    (hu : P.underlying t = some (.slice el)) (hs : (P.info? el).map (·.size) = some sz) (hk : min sn dn = k) (hn : src.length = k * sz) (hsrc : RowIn ((pt b (.cells cs T) :: L) ++ R) sb so src) (hfit : o + src.length ≤ cs.size) (h1 : ∀ v ∈ src, v.oneCell' = true) :
    Ef P e l (.call ⟨.builtin .copy, #[x, y], #[t, u]⟩) ty (pt b (.cells cs T) :: L) R (fun v L' => v = .int .i64 k ∧ L' = pt b (.cells (splice cs.toList o src).toArray T) :: L) := by
  intro a w ha hT dst pos after guard
  obtain ⟨i, hi, hz⟩ := Option.map_eq_some_iff.1 hs
  have hsz : (sizeOf el).run P w = .ok sz w := by simp [sizeOf, typeInfo, program, Sem.run_bind, Sem.run, Result.andThen, hi, hz, pure, Sem.pure]
  obtain ⟨w', hw', hT'⟩ := run_storeCells (P := P) (L := L ++ R) hT hfit h1
  refine ⟨.int .i64 k, w', _, ?_, ⟨rfl, rfl⟩, hT'⟩
  have hld := hsrc.run (P := P) hT.all
  rw [hn] at hld
  have hk' : Nat.min sn dn = k := hk
  simp only [execOp, resolve, invoke, builtin, Builtin.copy_, Sem.run_bind, Sem.run_pure, Result.andThen_ok, List.map_toArray, List.map_cons, List.map_nil, ha.ev hx, ha.ev hy]
  simp [run_underlying' hu, Builtin.lenOf, Sem.run_pure, Sem.run_bind, hsz, Builtin.firstCells, hk', hld, hw', goInt]
/-- make([]T, n). -/
theorem ef_makeSlice {α : Type} {E : Enc α} {t T : TypeId} {x y : Operand} {n : Nat} {z : Value} {by_ : Nat} {za : α} (hx : ev l x = some (.int .i64 n)) (hy : ev l y = some (.int .i64 n)) (ht : P.underlying t = some (.slice T)) (hinfo : (P.info? T).map (fun i => (i.zero, i.size, i.bytes)) = some (some z, E.sz, by_))
    (hz : z.cells.toList = E.cells za) (hb : n * by_ ≤ 281474976710656) (hn : n ≤ 9223372036854775807) :
    Ef P e l (.makeSlice t x y) ty L R (fun v' L' => ∃ b X', v' = .slice (some ⟨b, 0, none⟩) n n ∧ Sl E T v' (List.replicate n za) X' ∧ L' = X' :: L) := by
  intro a w ha hT dst pos after guard
  obtain ⟨i, hi, hzz⟩ := Option.map_eq_some_iff.1 hinfo
  simp only [Prod.mk.injEq] at hzz
  obtain ⟨hz0, hz1, hz2⟩ := hzz
  let cells : Array Value := (Array.range (n * E.sz)).map ((if n * E.sz = 0 then #[] else z.cells)[· % (if n * E.sz = 0 then (#[] : Array Value) else z.cells).size]!)
  have hzs : z.cells.size = E.sz := by rw [← Array.length_toList, hz, E.len]
  have hcl : cells.toList = E.all (List.replicate n za) := by
    apply List.ext_getElem?
    intro j
    by_cases hj : j < n * E.sz
    · have hq : j / E.sz < n := Nat.div_lt_of_lt_mul (by rw [Nat.mul_comm]; exact hj)
      have hm := Nat.mod_lt j E.pos
      have hd := Nat.div_add_mod j E.sz
      have hrep : (List.replicate n za)[j / E.sz]? = some za := by rw [List.getElem?_replicate, if_pos hq]
      have h2 := E.all_get hrep hm
      rw [show j / E.sz * E.sz + j % E.sz = j by rw [Nat.mul_comm]; exact hd] at h2
      rw [h2, ← hz]
      have hne : ¬ n * E.sz = 0 := by omega
      have hm' : j % z.cells.size < z.cells.size := by rw [hzs]; exact hm
      simp only [cells, hne, if_false, Array.toList_map, Array.toList_range, List.getElem?_map, List.getElem?_range hj, Option.map_some]
      rw [getElem!_pos z.cells _ hm']
      rw [← hzs, Array.getElem?_toList, Array.getElem?_eq_getElem hm']
    · rw [List.getElem?_eq_none (by simp [cells]; omega), List.getElem?_eq_none (by rw [E.all_length]; simp; omega)]
  refine ⟨.slice (some ⟨w.heap.size, 0, none⟩) n n, w.alloc (.cells cells T), pt w.heap.size (.cells cells T) :: L, ?_, ⟨_, _, rfl, .inr ⟨_, n, cells, by simp, rfl, by simp, by simp only [maxLen]; omega, by simp [cells], ?_⟩, rfl⟩, hT.alloc _⟩
  · have hsz : ∀ w, (sizeOf T).run P w = .ok E.sz w := fun w => by simp [sizeOf, typeInfo, program, Sem.run_bind, Sem.run, Result.andThen, hi, hz1, pure, Sem.pure]
    have hti : ∀ w, (typeInfo T).run P w = .ok i w := fun w => by simp [typeInfo, program, Sem.run_bind, Sem.run, Result.andThen, hi, pure, Sem.pure]
    have hzr : ∀ w, (zeroValue T).run P w = .ok z w := fun w => by simp [zeroValue, hti, Sem.run_bind, hz0, Sem.run_pure]
    have hask : ∀ b w, (askRoom b).run P w = .ok () w := fun b w => by unfold askRoom; split <;> rfl
    have hwr : IntKind.i64.wrap (n : Int) = n := wrap_i64 ⟨by omega, by omega⟩
    have hlarge : ¬ (281474976710656 : Int) < (i.bytes : Int) * (n : Int) := by
      rw [hz2]
      have hcast : ((n * by_ : Nat) : Int) = (by_ : Int) * (n : Int) := by rw [Int.natCast_mul, Int.mul_comm]
      rw [← hcast]
      generalize n * by_ = q at hb
      omega
    simp only [execOp, Instr.makeSlice, ha.ev hx, ha.ev hy]
    simp only [Sem.run_bind, run_underlying' ht, Result.andThen_ok, asInt, asIntOf, Sem.run_pure, hti, hwr]
    have hcond : ¬ ((decide ((n : Int) < 0) || decide ((i.bytes : Int) * (n : Int) > 2 ^ 48)) = true ∨ (n : Int) < 0 ∨ (n : Int) > (n : Int)) := by
      have e48 : (2 : Int) ^ 48 = 281474976710656 := by decide
      rw [e48]
      rintro (h | h | h)
      · rcases Bool.or_eq_true _ _ ▸ h with h | h
        · have := of_decide_eq_true h; omega
        · have := of_decide_eq_true h; omega
      · omega
      · omega
    rw [if_neg (by simpa using hcond)]
    simp only [Sem.run_bind, hask, Result.andThen_ok, hsz, Int.toNat_natCast]
    by_cases h0 : n * E.sz = 0
    · simp only [h0, if_true, Sem.run_pure, Result.andThen_ok, newRow, newObj, Sem.run_bind]
      simp only [cells, h0, if_true]
      rfl
    · simp only [h0, if_false, Sem.run_bind, hzr, Sem.run_pure, Result.andThen_ok, newRow, newObj]
      simp only [cells, h0, if_false]
      rfl
  · simp only [List.length_replicate]
    rw [hcl, List.take_of_length_le (by rw [E.all_length]; simp)]
end

/-! a library function without a body -/
theorem run_extern {P : Program} {f : FuncId} {fn : Func} {ex : Array Value → Sem Value} (hf : P.funcs[f]? = some fn) (hn : (fn.name == "runtime.NumGoroutine") = false) (hb : fn.body.isNone = true) (h1 : Extern.findNext fn = none) (h2 : Extern.find fn = some ex) (args : Array Value) (w : World) :
    (callFunc f args).run P w = ((ex args).run P w).andThen fun v w' => .ok (.value v) w' := by
  unfold callFunc
  rw [Sem.run_bind]
  simp only [program, Sem.run, pure, Result.andThen_ok, hf, hn, hb, Bool.false_eq_true, if_false, if_true]
  simp only [Sem.run_bind, mark, Sem.run, h1, h2, pure, Result.andThen_ok]
section
variable {P : Program} {R L : List Part} {l : List (Nat × Value)} {ty : TypeId} {e : Env}
theorem yl_extern {g : Operand} {xs : Array Operand} {tys : Array TypeId} {f : FuncId} {fn : Func} {ex : Array Value → Sem Value} {vs : List Value} {v : Value} (hg : ev l g = some (.func (.func f) #[] #[])) (hx : evs l xs.toList = some vs)
    (hf : P.funcs[f]? = some fn) (hn : (fn.name == "runtime.NumGoroutine") = false) (hb : fn.body.isNone = true) (h1 : Extern.findNext fn = none) (h2 : Extern.find fn = some ex) (hv : ∀ w, HasAll w R → (ex vs.toArray).run P w = .ok v w) :
    Yl P R l (.call ⟨.value g, xs, tys⟩) ty v := by
  intro a w ha hw dst pos after guard
  have h3 : xs.map a.eval = vs.toArray := by rw [← ha.evs hx]; apply Array.ext'; rw [Array.toList_map]
  simp only [execOp, resolve, ha.ev hg, Deferred.ofValue, invoke, Sem.run_bind, Sem.run_pure, Result.andThen_ok, h3]
  rw [show (#[] ++ vs.toArray ++ #[] : Array Value) = vs.toArray by simp, run_extern hf hn hb h1 h2, hv w hw]
  rfl
/-- Two slices in two blocks do not overlap. -/
theorem run_overlaps {tS tR el : TypeId} {sz : Nat} (ht : P.underlying tS = some (.slice el)) (hs : (P.info? el).map (·.size) = some sz) {x y : Part} (hx : x ∈ R) (hy : y ∈ R) {b1 o1 n1 c1 b2 o2 n2 c2 : Nat} {cs1 cs2 : Array Value} {T1 T2 : TypeId}
    (h1 : x b1 = some (.cells cs1 T1 (0, 0))) (h2 : y b2 = some (.cells cs2 T2 (0, 0))) (hne : b1 ≠ b2) (h0 : 0 < cs2.size) : ∀ w, HasAll w R →
    (Extern.SlicesOverlaps.overlaps #[tS, tS] #[tR] #[.slice (some ⟨b1, o1, none⟩) n1 c1, .slice (some ⟨b2, o2, none⟩) n2 c2]).run P w = .ok (.bool false) w := by
  intro w hw
  obtain ⟨i, hi, hz⟩ := Option.map_eq_some_iff.1 hs
  have e1 := hw x hx b1 _ h1
  have e2 := hw y hy b2 _ h2
  exact Lib.run_overlaps_apart w tS tR el ht sz (fun w => by simp [sizeOf, typeInfo, program, Sem.run_bind, Sem.run, Result.andThen, hi, hz, pure, Sem.pure]) _ _ _ _ _ _ hne T1 T2 cs1.size cs2.size (by simp [World.shape?, e1]) (by simp [World.shape?, e2]) (by omega) (by simp [World.frozen?, e1]) (by simp [World.frozen?, e1])
/-- A value of several cells is stored. -/
theorem ef_storeA {t T : TypeId} {x y : Operand} {b off : Nat} {cs : Array Value} {u : Value} {n : Nat} (hx : ev l x = some (.pointer (some ⟨b, off, none⟩))) (hy : ev l y = some u) (hs : (P.info? t).map (·.size) = some n) (hn : u.cells.toList.length = n) (ho : Nat.ble (off + n) cs.toList.length = true) (h1 : u.cells.toList.all Value.oneCell' = true) :
    EfS P e l (.store t x y) ty (pt b (.cells cs T) :: L) R (fun L' => L' = pt b (.cells (splice cs.toList off u.cells.toList).toArray T) :: L) := by
  intro a w ha hT dst pos after guard
  obtain ⟨i, hi, hz⟩ := Option.map_eq_some_iff.1 hs
  have hsz : (sizeOf t).run P w = .ok n w := by simp [sizeOf, typeInfo, program, Sem.run_bind, Sem.run, Result.andThen, hi, hz, pure, Sem.pure]
  obtain ⟨w', hw', hT'⟩ := run_storeCells (P := P) (L := L ++ R) (o := off) (vs := u.cells.toList) hT (by rw [hn, ← Array.length_toList]; exact Nat.le_of_ble_eq_true ho) (fun v hv => by simpa using List.all_eq_true.1 h1 v hv)
  refine ⟨w', _, ?_, rfl, hT'⟩
  simp only [execOp, Instr.storeAt, ha.ev hx, ha.ev hy, Instr.sureAddr]
  have hn' : u.cells.size = n := by rw [← Array.length_toList]; exact hn
  simp [Sem.run_bind, Sem.run_pure, storeVar, hsz, hn', hw']
/-- .. over a whole block. -/
theorem ef_storeW {t T : TypeId} {x y : Operand} {b : Nat} {cs : Array Value} {u : Value} {n : Nat} (hx : ev l x = some (.pointer (some ⟨b, 0, none⟩))) (hy : ev l y = some u) (hs : (P.info? t).map (·.size) = some n) (hn : u.cells.toList.length = n) (ho : cs.toList.length = n) (h1 : u.cells.toList.all Value.oneCell' = true) :
    EfS P e l (.store t x y) ty (pt b (.cells cs T) :: L) R (fun L' => L' = pt b (.cells u.cells T) :: L) := by
  have h := ef_storeA (L := L) (R := R) (ty := ty) (P := P) (e := e) (T := T) (cs := cs) hx hy hs hn (by rw [ho]; simp) h1
  have he : (splice cs.toList 0 u.cells.toList).toArray = u.cells := by
    apply Array.ext'
    simp only [splice, List.take_zero, List.nil_append, Nat.zero_add]
    rw [List.drop_of_length_le (by omega)]; simp
  intro a w ha hT dst pos after guard
  obtain ⟨w', L', h1, rfl, h3⟩ := h a w ha hT dst pos after guard
  rw [he] at h3
  exact ⟨w', _, h1, rfl, h3⟩
end
end Go.Proofs.Ytjhbgciocffihaa
