/- Own words, part 10: a map is cloned (the runtime's own function), an interface is made and asserted; nil slices; an empty literal; 'clear' of a slice. -/
import Derived.Test.YtjhbgciocffihaaK9
set_option linter.unusedVariables false
set_option linter.unusedSimpArgs false
namespace Go.Proofs.Ytjhbgciocffihaa
def notIface : TypeDesc → Bool
  | .interface _ => false
  | _ => true
section
variable {P : Program} {R L : List Part} {l : List (Nat × Value)} {ty : TypeId} {e : Env}
theorem yl_makeIface {t : TypeId} {d : TypeDesc} {x : Operand} {v : Value} (hx : ev l x = some v) (hu : P.underlying t = some d) (hd : notIface d = true) : Yl P R l (.makeInterface t x) ty (.iface t v) := by
  intro a w ha hw dst pos after guard
  simp only [execOp, ha.ev hx, Instr.makeInterface, Sem.run_bind, run_underlying' hu, Result.andThen_ok]
  cases d <;> simp [notIface] at hd <;> simp [Sem.run_pure]
theorem yl_assertT {t u : TypeId} {d : TypeDesc} {x : Operand} {v : Value} (hx : ev l x = some (.iface t v)) (hu : P.underlying t = some d) (hd : notIface d = true) : Yl P R l (.typeAssert x u t false) ty v := by
  intro a w ha hw dst pos after guard
  simp only [execOp, ha.ev hx, Instr.typeAssert, Sem.run_bind, run_underlying' hu, Result.andThen_ok]
  cases d <;> simp [notIface] at hd <;> simp [Sem.run_pure]
theorem run_eqIn_sliceNil {t el : TypeId} (hu : P.underlying t = some (.slice el)) (d : Nat) (A : Option Addr) (n c : Nat) (w : World) : (Op.equalIn (d + 1) t (.slice A n c) (.slice none 0 0)).run P w = .ok A.isNone w := by
  unfold Op.equalIn
  rw [Sem.run_bind, run_underlying' hu]
  cases A <;> simp [Sem.run_pure]
theorem yl_sliceNil {op : BinOp} {t u el : TypeId} {x y : Operand} {A : Option Addr} {n c : Nat} (hx : ev l x = some (.slice A n c)) (hy : ev l y = some (.slice none 0 0)) (hu : P.underlying t = some (.slice el)) {r : Bool}
    (ho : (match op with | .eql => some A.isNone | .neq => some (!A.isNone) | _ => none) = some r) : Yl P R l (.binOp op t x y u) ty (.bool r) := by
  intro a w ha hw dst pos after guard
  have h := run_eqIn_sliceNil hu 9999 A n c w
  have hg : (eqGuard op t x y (.slice A n c) (.slice none 0 0)).run P w = .ok () w := by unfold eqGuard; cases op <;> simp [Sem.run_pure]
  simp only [execOp, ha.ev hx, ha.ev hy]
  rw [Sem.run_bind, Sem.run_bind, hg]
  cases op <;> simp at ho <;> simp [binOp, Op.equal, Op.maxDepth, Sem.run_bind, h, Result.andThen, Sem.run_pure, ho]
/-- A map is cloned. -/
theorem ef_mapsClone {κ α : Type} {encK : κ → Value} {encV : α → Value} {g : Operand} {xs : Array Operand} {tys : Array TypeId} {f : FuncId} {fn : Func} {it : TypeId} {b : Nat} {m : List (κ × α)}
    (hg : ev l g = some (.func (.func f) #[] #[])) (hx : evs l xs.toList = some [.iface it (.map (some b))])
    (hf : P.funcs[f]? = some fn) (hn : (fn.name == "runtime.NumGoroutine") = false) (hb : fn.body.isNone = true) (h1 : Extern.findNext fn = none) (h2 : Extern.find fn = some Extern.MapsClone.clone) (hM : MapIn encK encV (L ++ R) b m) :
    Ef P e l (.call ⟨.value g, xs, tys⟩) ty L R (fun v L' => ∃ b' X, v = .iface it (.map (some b')) ∧ MapL encK encV b' m X ∧ L' = X :: L) := by
  intro a w ha hT dst pos after guard
  obtain ⟨x, hx', es, clk, rfl, hE⟩ := hM
  have h3 : xs.map a.eval = #[.iface it (.map (some b))] := by
    have := ha.evs hx
    apply Array.ext'; rw [Array.toList_map]; exact this
  have hobj : w.heap[b]? = some (.map es clk) := hT.all _ hx' b _ (pt_self b _)
  refine ⟨_, w.alloc (.map es clk), pt w.heap.size (.map es clk) :: L, ?_, ⟨w.heap.size, _, rfl, ⟨es, clk, rfl, hE⟩, rfl⟩, hT.alloc _⟩
  simp only [execOp, resolve, ha.ev hg, Deferred.ofValue, invoke, Sem.run_bind, Sem.run_pure, Result.andThen_ok, h3]
  rw [show (#[] ++ #[Value.iface it (.map (some b))] ++ #[] : Array Value) = #[.iface it (.map (some b))] by simp, run_extern hf hn hb h1 h2]
  have hc : Extern.MapsClone.clone #[.iface it (.map (some b))] = (do
    let .map entries clock ← getObj b | stuck "maps.clone: a map expected"
    pure (.iface it (.map (some (← newObj (.map entries clock)))))) := rfl
  rw [hc]
  simp only [Sem.run_bind, run_getObj_map hobj, Result.andThen_ok, newObj]
  rfl
/-- An empty literal. -/
theorem ef_buildSlice0 {α : Type} {E : Enc α} {t T : TypeId} (ht : P.underlying t = some (.slice T)) {z : Value} (hinfo : (P.info? T).map (fun i => (i.zero, i.size)) = some (some z, E.sz)) :
    Ef P e l (.buildSlice t 0 #[]) ty L R (fun v' L' => ∃ b X', v' = .slice (some ⟨b, 0, none⟩) 0 0 ∧ Sl E T v' ([] : List α) X' ∧ L' = X' :: L) := by
  intro a w ha hT dst pos after guard
  obtain ⟨i, hi', hzz⟩ := Option.map_eq_some_iff.1 hinfo
  simp only [Prod.mk.injEq] at hzz
  obtain ⟨hz0, hz1⟩ := hzz
  have hsz' : (sizeOf T).run P w = .ok E.sz w := by simp [sizeOf, typeInfo, program, Sem.run_bind, Sem.run, Result.andThen, hi', hz1, pure, Sem.pure]
  refine ⟨.slice (some ⟨w.heap.size, 0, none⟩) 0 0, w.alloc (.cells #[] T), pt w.heap.size (.cells #[] T) :: L, ?_, ⟨_, _, rfl, .inr ⟨_, 0, _, rfl, rfl, Nat.le_refl _, by simp, by simp, by simp [Enc.all]⟩, rfl⟩, hT.alloc _⟩
  simp only [execOp, Instr.buildSlice]
  rw [Sem.run_bind, Sem.run_bind, run_underlying' ht]
  simp only [Result.andThen_ok]
  rw [Sem.run_bind, hsz']
  simp only [Result.andThen_ok]
  have hr0 : (Array.range 0) = #[] := rfl
  simp [Sem.run_bind, Sem.run_pure, Result.andThen_ok, Instr.fill, newRow, newObj, hr0]
  rfl
/-- 'clear' of a slice. -/
theorem ef_clear {x : Operand} {t el T : TypeId} {b o n c sz : Nat} {cs : Array Value} {z : Value} (hx : ev l x = some (.slice (some ⟨b, o, none⟩) n c)) (hu : P.underlying t = some (.slice el)) (hz : (P.info? el).map (·.zero) = some (some z)) (hsz : z.cells.size = sz)
    (h1 : z.cells.toList.all Value.oneCell' = true) (h0 : 0 < sz) (hfit : o + n * sz ≤ cs.size) :
    Ef P e l (.call ⟨.builtin .clear, #[x], #[t]⟩) ty (pt b (.cells cs T) :: L) R (fun _ L' => ∃ zs, zs.length = n * sz ∧ L' = pt b (.cells (splice cs.toList o zs).toArray T) :: L) := by
  intro a w ha hT dst pos after guard
  by_cases hn : n = 0
  · subst hn
    refine ⟨.tuple #[], w, _, ?_, ⟨[], by simp, rfl⟩, ?_⟩
    · simp only [execOp, resolve, invoke, builtin, Sem.run_bind, Sem.run_pure, Result.andThen_ok, List.map_toArray, List.map_cons, List.map_nil, ha.ev hx]
      simp [Builtin.clear_, Sem.run_bind, run_underlying' hu, Sem.run_pure]
    · have : (splice cs.toList o []).toArray = cs := by apply Array.ext'; simp [splice]
      rw [this]; exact hT
  · have hone : ∀ v ∈ (Builtin.zeroCells z.cells n).toList, v.oneCell' = true := by
      intro v hv
      simp only [Builtin.zeroCells, Array.toList_map, List.mem_map] at hv
      obtain ⟨i, _, rfl⟩ := hv
      have hm : i % z.cells.size < z.cells.size := Nat.mod_lt _ (by omega)
      rw [getElem!_pos z.cells _ hm]
      exact List.all_eq_true.1 h1 _ (by simp)
    have hlen : (Builtin.zeroCells z.cells n).toList.length = n * sz := by simp [Builtin.zeroCells, hsz]
    obtain ⟨w', hw', hT'⟩ := run_storeCells (P := P) (L := L ++ R) (o := o) (vs := (Builtin.zeroCells z.cells n).toList) hT (by rw [hlen]; exact hfit) hone
    refine ⟨.tuple #[], w', _, ?_, ⟨_, hlen, rfl⟩, hT'⟩
    simp only [execOp, resolve, invoke, builtin, Sem.run_bind, Sem.run_pure, Result.andThen_ok, List.map_toArray, List.map_cons, List.map_nil, ha.ev hx]
    cases n with
    | zero => exact absurd rfl hn
    | succ n => simp [Builtin.clear_, Sem.run_bind, run_underlying' hu, Sem.run_pure, run_zero hz, hw']
end
end Go.Proofs.Ytjhbgciocffihaa
