/-
  Own words, part 1: the operations that only read ('Yl'), the rule that carries one out in a plan ('rd'), conditions, and a function's contract out of its body.
-/
import Derived.Test.YtjhbgciocffihaaK0
import Derived.Tactics
set_option linter.unusedVariables false
set_option linter.unusedSimpArgs false
namespace Go.Proofs.Ytjhbgciocffihaa

section
variable {P : Program} {ro : Option Nat} {dr : Bool} {ops : Array Oper} {K : Act → World → Prop} {R : List Part} {l l' : List (Nat × Value)} {D : List Deferred} {a : Act} {w : World} {N : Nat}
  {t : List (Nat × Bool)} {i d : Nat} {op : Op} {ty : TypeId} {pos : String} {after : Array Edge} {v : Value}

theorem blt_lt {d N : Nat} (h : Nat.blt d N = true) : d < N := by simp [Nat.blt] at h; omega
/-- An operation that yields v wherever the slots of l are known and the blocks of R lie. -/
def Yl (P : Program) (R : List Part) (l : List (Nat × Value)) (op : Op) (ty : TypeId) (v : Value) : Prop :=
  ∀ a w, Knows l a → HasAll w R → ∀ dst pos after guard, (execOp a.eval ⟨dst, op, ty, pos, after, guard⟩).run P w = .ok (.value v) w

theorem wanted_none (o : Oper) (y : Nat → Option Bool) (h : o.guard = none) : Region.wanted o y = true := by simp [Region.wanted, h]
theorem wanted_some {o : Oper} {g : Nat} {want c : Bool} {tg : Nat} {og : Oper} (hf : Fr N l D a) (h : o.guard = some (g, want)) (hg : ops[g]? = some og) (hd : og.dst = some tg) (hc : lk l tg = some (.bool c)) :
    Region.wanted o (yielded ops a.tmps) = (c == want) := by
  have := hf.get hc
  simp [Region.wanted, h, yielded, hg, hd, this]

/-- A fresh slot is written. -/
theorem rd (hf : Fr N l D a) (ho : ops[i]? = some ⟨some d, op, ty, pos, after, none⟩) (hy : Yl P R l op ty v) (hd : Nat.blt d N = true) (hl : lk l d = none)
    (k : ∀ a', Fr N ((d, v) :: l) D a' → Plan P ro dr ops K (fun w => HasAll w R) t a' w) : Plan P ro dr ops K (fun w => HasAll w R) ((i, true) :: t) a w := by
  refine ⟨_, v, ho, .inl ⟨wanted_none _ _ rfl, fun w hw => hy a w hf.knows hw _ _ _ _⟩, k _ ?_⟩
  have hd' : d < N := blt_lt hd
  have := hf.put d v hd'
  have he : er l d = l := by
    clear this k hy hf
    induction l with
    | nil => rfl
    | cons p l ih =>
      simp only [lk] at hl
      cases hb : Nat.beq p.1 d with
      | true => rw [hb] at hl; simp at hl
      | false => rw [hb] at hl; simp [er, hb]; exact ih (by simpa using hl)
  rwa [he] at this
/-- A slot is written over. -/
theorem rw_ (hf : Fr N l D a) (ho : ops[i]? = some ⟨some d, op, ty, pos, after, none⟩) (hy : Yl P R l op ty v) (hd : Nat.blt d N = true) (hl : (d, v) :: er l d = l')
    (k : ∀ a', Fr N l' D a' → Plan P ro dr ops K (fun w => HasAll w R) t a' w) : Plan P ro dr ops K (fun w => HasAll w R) ((i, true) :: t) a w := by
  refine ⟨_, v, ho, .inl ⟨wanted_none _ _ rfl, fun w hw => hy a w hf.knows hw _ _ _ _⟩, k _ ?_⟩
  have hd' : d < N := blt_lt hd
  subst hl
  exact hf.put d v hd'
/-- A guarded operation that is wanted. -/
theorem rdT {g tg : Nat} {want c : Bool} {og : Oper} (hf : Fr N l D a) (ho : ops[i]? = some ⟨some d, op, ty, pos, after, some (g, want)⟩) (hg : ops[g]? = some og) (hgd : og.dst = some tg) (hc : lk l tg = some (.bool c)) (hcw : c = want)
    (hy : Yl P R l op ty v) (hd : Nat.blt d N = true) (hl : (d, v) :: er l d = l')
    (k : ∀ a', Fr N l' D a' → Plan P ro dr ops K (fun w => HasAll w R) t a' w) : Plan P ro dr ops K (fun w => HasAll w R) ((i, true) :: t) a w := by
  refine ⟨_, v, ho, .inl ⟨by rw [wanted_some hf rfl hg hgd hc, hcw]; simp, fun w hw => hy a w hf.knows hw _ _ _ _⟩, k _ ?_⟩
  have hd' : d < N := blt_lt hd
  subst hl
  exact hf.put d v hd'
/-- A guarded operation that is not wanted. -/
theorem rdF {g tg : Nat} {want c : Bool} {og : Oper} (hf : Fr N l D a) (ho : ops[i]? = some ⟨some d, op, ty, pos, after, some (g, want)⟩) (hg : ops[g]? = some og) (hgd : og.dst = some tg) (hc : lk l tg = some (.bool c)) (hcw : c = !want)
    (hd : Nat.blt d N = true) (hl : (d, undef) :: er l d = l')
    (k : ∀ a', Fr N l' D a' → Plan P ro dr ops K (fun w => HasAll w R) t a' w) : Plan P ro dr ops K (fun w => HasAll w R) ((i, true) :: t) a w := by
  refine ⟨_, undef, ho, .inr ⟨by rw [wanted_some hf rfl hg hgd hc, hcw]; cases want <;> rfl, rfl⟩, k _ ?_⟩
  have hd' : d < N := blt_lt hd
  subst hl
  exact hf.put d undef hd'
/-- A guarded effect that is not wanted. -/
theorem efF {g tg : Nat} {want c : Bool} {og : Oper} {dst : Option Nat} (hf : Fr N l D a) (ho : ops[i]? = some ⟨dst, op, ty, pos, after, some (g, want)⟩) (hg : ops[g]? = some og) (hgd : og.dst = some tg) (hc : lk l tg = some (.bool c)) (hcw : c = !want)
    (hR : HasAll w R) (hd : ∀ d, dst = some d → Nat.blt d N = true) (hl : (match dst with | some d => (d, undef) :: er l d | none => l) = l')
    (k : ∀ a', Fr N l' D a' → Plan P ro dr ops K (fun w => HasAll w R) t a' w) : Plan P ro dr ops K (fun w => HasAll w R) ((i, false) :: t) a w := by
  have hw : Region.wanted (⟨dst, op, ty, pos, after, some (g, want)⟩ : Oper) (yielded ops a.tmps) = false := by rw [wanted_some hf rfl hg hgd hc, hcw]; cases want <;> rfl
  simp only [Plan, wpOpIn, ho, hw]
  refine ⟨fun _ _ => trivial, .inr hR, k _ ?_⟩
  subst hl
  cases dst with
  | none => exact hf
  | some d => exact hf.put d undef (blt_lt (hd d rfl))
theorem plan_nil (h : K a w) : Plan P ro dr ops K (fun w => HasAll w R) [] a w := h
theorem plan_cut (M : Act → World → Prop) (pl : List (Nat × Bool)) (h : Plan P ro dr ops M (fun w => HasAll w R) pl a w) (k : ∀ a w, M a w → K a w) : Plan P ro dr ops K (fun w => HasAll w R) pl a w := by
  induction pl generalizing a w with
  | nil => exact k _ _ h
  | cons p pl ih =>
    obtain ⟨i, b⟩ := p
    cases b with
    | true => obtain ⟨o, v, h1, h2, h3⟩ := h; exact ⟨o, v, h1, h2, ih h3⟩
    | false =>
      simp only [Plan] at h ⊢
      unfold wpOpIn at h ⊢
      cases ho : ops[i]? with
      | none => rw [ho] at h; exact ⟨h.1, ih h.2⟩
      | some o =>
        rw [ho] at h
        simp only at h ⊢
        split
        · rename_i hw
          rw [if_pos hw] at h
          unfold Oper.wpIn at *
          refine ⟨h.1, ?_⟩
          have h := h.2
          generalize (o.semAt (Fw ro).round a.eval).run P w = r at *
          cases r with
          | ok x w' =>
            cases x <;> simp only [Oper.uponIn] at h ⊢ <;>
              first
                | exact ⟨h.1, ih h.2⟩
                | exact ⟨h.1, CallsIn.mono h.2 (fun e w'' he => by cases e <;> first | exact ⟨he.1, ih he.2⟩ | exact he.elim | (obtain ⟨a0, w0, hq⟩ := he; exact hq.elim))⟩
                | exact ⟨h.1, RowsIn.mono h.2 (fun _ _ he => ⟨he.1, ih he.2⟩)⟩
                | exact ⟨h.1, RoundIn.mono h.2 (fun e w'' he => by cases e <;> first | exact ⟨he.1, ih he.2⟩ | exact he.elim | (obtain ⟨a0, w0, hq⟩ := he; exact hq.elim))⟩
          | halt x w' => cases x <;> simp only [Oper.uponIn] at h ⊢ <;> exact h.elim
        · rename_i hw
          rw [if_neg hw] at h
          exact ⟨h.1, h.2.1, ih h.2.2⟩
end

def nth : List Value → Nat → Option Value
  | [], _ => none
  | v :: _, 0 => some v
  | _ :: vs, n + 1 => nth vs n
theorem nth_eq : ∀ (l : List Value) (n : Nat), nth l n = l[n]?
  | [], _ => by simp [nth]
  | v :: vs, 0 => by simp [nth]
  | v :: vs, n + 1 => by simp [nth, nth_eq vs n]
/-! ### Operations that only read -/
section
variable {P : Program} {R : List Part} {l : List (Nat × Value)} {ty : TypeId}
theorem yl_move {x : Operand} {v : Value} (h : ev l x = some v) : Yl P R l (.move x) ty v := by
  intro a w ha hw dst pos after guard; simp [execOp, ha.ev h, Sem.run_pure]
theorem yl_assign {x : Operand} {v : Value} (h : ev l x = some v) : Yl P R l (.assign x) ty v := by
  intro a w ha hw dst pos after guard; simp [execOp, ha.ev h, Sem.run_pure]
theorem yl_pick {c x y : Operand} {b : Bool} {vx vy : Value} (hc : ev l c = some (.bool b)) (hx : ev l x = some vx) (hy : ev l y = some vy) : Yl P R l (.pick c x y) ty (if b then vx else vy) := by
  intro a w ha hw dst pos after guard
  simp [execOp, ha.ev hc, ha.ev hx, ha.ev hy, asBool, Sem.run_pure, Sem.run_bind, Result.andThen]
theorem yl_pickT {c x y : Operand} {vx : Value} (hc : ev l c = some (.bool true)) (hx : ev l x = some vx) : Yl P R l (.pick c x y) ty vx := by
  intro a w ha hw dst pos after guard
  simp [execOp, ha.ev hc, ha.ev hx, asBool, Sem.run_pure, Sem.run_bind, Result.andThen]
theorem yl_pickF {c x y : Operand} {vy : Value} (hc : ev l c = some (.bool false)) (hy : ev l y = some vy) : Yl P R l (.pick c x y) ty vy := by
  intro a w ha hw dst pos after guard
  simp [execOp, ha.ev hc, ha.ev hy, asBool, Sem.run_pure, Sem.run_bind, Result.andThen]
theorem yl_pickTT {c x y : Operand} {b : Bool} {vx : Value} (hc : ev l c = some (.bool b)) (hb : b = true) (hx : ev l x = some vx) : Yl P R l (.pick c x y) ty vx := by
  subst hb; exact yl_pickT hc hx
theorem yl_pickFF {c x y : Operand} {b : Bool} {vy : Value} (hc : ev l c = some (.bool b)) (hb : b = false) (hy : ev l y = some vy) : Yl P R l (.pick c x y) ty vy := by
  subst hb; exact yl_pickF hc hy
theorem yl_nil {x : Operand} {p : Addr} (h : ev l x = some (.pointer (some p))) : Yl P R l (.nilCheck x) ty (.pointer (some p)) := by
  intro a w ha hw dst pos after guard; simp [execOp, ha.ev h, Sem.run_pure]
theorem yl_not {t : TypeId} {x : Operand} {b : Bool} (h : ev l x = some (.bool b)) : Yl P R l (.unOp .not t x) ty (.bool (!b)) := by
  intro a w ha hw dst pos after guard; simp [execOp, ha.ev h, Op.unary, Sem.run_pure, Sem.run_bind, Result.andThen]
theorem yl_extract {x : Operand} {vs : Array Value} {n : Nat} {v : Value} (h : ev l x = some (.tuple vs)) (hn : nth vs.toList n = some v) : Yl P R l (.extract x n) ty v := by
  rw [nth_eq, Array.getElem?_toList] at hn
  intro a w ha hw dst pos after guard; simp [execOp, ha.ev h, Instr.extract, hn, Sem.run_pure, Sem.run_bind, Result.andThen]
def evs (l : List (Nat × Value)) : List Operand → Option (List Value)
  | [] => some []
  | x :: xs => match ev l x, evs l xs with
    | some v, some vs => some (v :: vs)
    | _, _ => none
theorem Knows.evs {a : Act} (ha : Knows l a) : ∀ {xs : List Operand} {vs : List Value}, evs l xs = some vs → xs.map a.eval = vs
  | [], vs, h => by simp [Ytjhbgciocffihaa.evs] at h; simp [h]
  | x :: xs, vs, h => by
    simp only [Ytjhbgciocffihaa.evs] at h
    split at h
    · rename_i v vs' h1 h2
      simp at h; subst h
      simp [ha.ev h1, ha.evs h2]
    · cases h
theorem yl_func {fn : Fn} {xs : Array Operand} {vs : List Value} (h : evs l xs.toList = some vs) : Yl P R l (.makeFunc fn #[] xs) ty (.func fn #[] vs.toArray) := by
  intro a w ha hw dst pos after guard
  have := ha.evs h
  have h2 : xs.map a.eval = vs.toArray := by rw [← this]; apply Array.ext'; rw [Array.toList_map]
  simp [execOp, Instr.makeFunc, h2, Sem.run_pure, Sem.run_bind, Result.andThen]

/-! loads -/
/-- The cell at block b, place n holds v, in a part that lies in R. -/
def CellIn (R : List Part) (b n : Nat) (v : Value) : Prop := ∃ x ∈ R, ∃ cs T fz, x b = some (.cells cs T fz) ∧ nth cs.toList n = some v
theorem CellIn.at_ {b n : Nat} {v : Value} (h : CellIn R b n v) {w : World} (hw : HasAll w R) : w.cell? ⟨b, n, none⟩ = some v := by
  obtain ⟨x, hx, cs, T, fz, hb, hn⟩ := h
  rw [nth_eq, Array.getElem?_toList] at hn
  simp [World.cell?, hw x hx b _ hb, hn]
theorem CellIn.mono {R' : List Part} {b n : Nat} {v : Value} (h : CellIn R b n v) (hs : ∀ x ∈ R, x ∈ R') : CellIn R' b n v := by
  obtain ⟨x, hx, h⟩ := h; exact ⟨x, hs x hx, h⟩
theorem run_underlying' {P : Program} {t : TypeId} {d : TypeDesc} (h : P.underlying t = some d) (w : World) : (underlying t).run P w = .ok d w := by
  simp [underlying, program, Sem.run_bind, Sem.run, Result.andThen, h, pure]
def TypeDesc.agg? : TypeDesc → Bool
  | .struct _ | .array _ _ => true
  | _ => false
theorem run_isAgg {P : Program} {t : TypeId} {d : TypeDesc} (h : P.underlying t = some d) (w : World) : (isAgg t).run P w = .ok (TypeDesc.agg? d) w := by
  unfold isAgg
  rw [Sem.run_bind, run_underlying' h]
  cases d <;> rfl
theorem run_load1 {P : Program} {t : TypeId} {d : TypeDesc} (h : P.underlying t = some d) (hd : TypeDesc.agg? d = false) {w : World} {p : Addr} {v : Value} (hc : w.cell? p = some v) : (loadVar t p).run P w = .ok v w := by
  unfold loadVar
  rw [Sem.run_bind, run_isAgg h, hd]
  simp [Result.andThen, load, Sem.run, hc]
theorem yl_load {t : TypeId} {d : TypeDesc} (hu : P.underlying t = some d) (hd : TypeDesc.agg? d = false) {x : Operand} {b n : Nat} {v : Value} (h : ev l x = some (.pointer (some ⟨b, n, none⟩))) (hc : CellIn R b n v) : Yl P R l (.load t x) ty v := by
  intro a w ha hw dst pos after guard
  simp only [execOp, ha.ev h, Instr.loadAt, Instr.sureAddr]
  simp [Sem.run_bind, Sem.run_pure, Result.andThen, run_load1 hu hd (hc.at_ hw)]
def cellsAt (cs : Array Value) (off n : Nat) : Array Value := cs.extract off (off + n)
theorem run_loadFrom {P : Program} {w : World} {p : Addr} : ∀ (n i : Nat) (acc : Array Value) (vs : List Value), (∀ j, j < n → w.cell? (p.add (i + j)) = vs[j]?) → vs.length = n →
    (loadCellsFrom p i n acc).run P w = .ok (acc ++ vs.toArray) w
  | 0, i, acc, vs, h, hl => by obtain rfl := List.eq_nil_of_length_eq_zero hl; simp [loadCellsFrom, Sem.run_pure]
  | n + 1, i, acc, v :: vs, h, hl => by
    have h0 := h 0 (by omega)
    simp at h0
    unfold loadCellsFrom
    rw [Sem.run_bind]
    simp only [load, Sem.run, h0, Result.andThen]
    rw [run_loadFrom n (i + 1) _ vs (fun j hj => by have := h (j + 1) (by omega); rw [show i + (j + 1) = i + 1 + j by omega] at this; simpa using this) (by simpa using hl)]
    simp
  | n + 1, i, acc, [], h, hl => by simp at hl
theorem run_loadA {P : Program} {t : TypeId} {d : TypeDesc} (h : P.underlying t = some d) (hd : TypeDesc.agg? d = true) {n : Nat} (hs : (P.info? t).map (·.size) = some n) {w : World} {p : Addr} {vs : List Value}
    (hc : ∀ j, j < n → w.cell? (p.add j) = vs[j]?) (hl : vs.length = n) : (loadVar t p).run P w = .ok (.agg vs.toArray) w := by
  obtain ⟨i, hi, hn⟩ := Option.map_eq_some_iff.1 hs
  unfold loadVar
  rw [Sem.run_bind, run_isAgg h, hd]
  simp only [Result.andThen, if_true]
  have hz : (sizeOf t).run P w = .ok n w := by simp [sizeOf, typeInfo, program, Sem.run_bind, Sem.run, Result.andThen, hi, hn, pure, Sem.pure]
  rw [Sem.run_bind, hz]
  simp only [Result.andThen, loadCells]
  rw [Sem.run_bind, run_loadFrom n 0 #[] vs (fun j hj => by simpa using hc j hj) hl]
  simp [Sem.run_pure]
/-- n cells from place off on. -/
def RowIn (R : List Part) (b off : Nat) (vs : List Value) : Prop := ∀ j (v : Value), vs[j]? = some v → CellIn R b (off + j) v
theorem add_at (b off j : Nat) : (⟨b, off, none⟩ : Addr).add j = ⟨b, off + j, none⟩ := by unfold Addr.add; split <;> simp_all
theorem RowIn.of_block {x : Part} (hx : x ∈ R) {b off : Nat} {cs : Array Value} {T : TypeId} {fz : Nat × Nat} {vs : List Value} (hb : x b = some (.cells cs T fz)) (hv : ∀ j, j < vs.length → cs[off + j]? = vs[j]?) : RowIn R b off vs := fun j v hj =>
  ⟨x, hx, cs, T, fz, hb, by rw [nth_eq, Array.getElem?_toList, hv j (List.getElem?_eq_some_iff.1 hj).1]; exact hj⟩
theorem yl_loadA {t : TypeId} {d : TypeDesc} (hu : P.underlying t = some d) (hd : TypeDesc.agg? d = true) {n : Nat} (hs : (P.info? t).map (·.size) = some n) {x : Operand} {b off : Nat} {vs : List Value}
    (h : ev l x = some (.pointer (some ⟨b, off, none⟩))) (hc : RowIn R b off vs) (hl : vs.length = n) : Yl P R l (.load t x) ty (.agg vs.toArray) := by
  intro a w ha hw dst pos after guard
  simp only [execOp, ha.ev h, Instr.loadAt, Instr.sureAddr]
  simp only [Sem.run_bind, Sem.run_pure, Result.andThen]
  rw [run_loadA hu hd hs (fun j hj => by
    rw [add_at]
    have hj' : j < vs.length := by omega
    rw [List.getElem?_eq_getElem hj']
    exact (hc j _ (List.getElem?_eq_getElem hj')).at_ hw) hl]
theorem yl_loadB {t : TypeId} {d : TypeDesc} (hu : P.underlying t = some d) (hd : TypeDesc.agg? d = true) {n : Nat} (hs : (P.info? t).map (·.size) = some n) {x : Operand} {b off : Nat} {vs : List Value} {X : Part} (hX : X ∈ R) {cs : Array Value} {T : TypeId} {fz : Nat × Nat}
    (h : ev l x = some (.pointer (some ⟨b, off, none⟩))) (hb : X b = some (.cells cs T fz)) (hv : (cs.toList.drop off).take n = vs) (hl : vs.length = n) : Yl P R l (.load t x) ty (.agg vs.toArray) :=
  yl_loadA hu hd hs h (RowIn.of_block hX hb fun j hj => by
    rw [← hv, List.getElem?_take, if_pos (by omega), List.getElem?_drop, Array.getElem?_toList]) hl
theorem yl_faddr {s : TypeId} {fs : Array Field} (hu : P.underlying s = some (.struct fs)) {x : Operand} {b off : Nat} (h : ev l x = some (.pointer (some ⟨b, off, none⟩))) {f k : Nat} {fld : Field} (hf : fs[f]? = some fld)
    {n : Nat} (hs : (P.info? fld.type).map (·.size) = some (n + 1)) (hk : off + fld.offset = k) : Yl P R l (.fieldAddr s x f) ty (.pointer (some ⟨b, k, none⟩)) := by
  intro a w ha hw dst pos after guard
  obtain ⟨i, hi, hn⟩ := Option.map_eq_some_iff.1 hs
  have hz : (sizeOf fld.type).run P w = .ok (n + 1) w := by simp [sizeOf, typeInfo, program, Sem.run_bind, Sem.run, Result.andThen, hi, hn, pure, Sem.pure]
  simp only [execOp, ha.ev h, Instr.fieldAt]
  simp [Sem.run_bind, Sem.run_pure, Result.andThen, run_underlying' hu, hf, Instr.sureAddr, fieldPlace, hz, add_at, hk]
theorem yl_field {s : TypeId} {fs : Array Field} (hu : P.underlying s = some (.struct fs)) {x : Operand} {cs : Array Value} (h : ev l x = some (.agg cs)) {f : Nat} {fld : Field} (hf : fs[f]? = some fld)
    {d : TypeDesc} (hd : P.underlying fld.type = some d) (hd' : TypeDesc.agg? d = false) {v : Value} (hv : nth cs.toList fld.offset = some v) : Yl P R l (.field s x f) ty v := by
  rw [nth_eq, Array.getElem?_toList] at hv
  intro a w ha hw dst pos after guard
  simp only [execOp, ha.ev h, Instr.field]
  simp [Sem.run_bind, Sem.run_pure, Result.andThen, run_underlying' hu, hf, asAgg, part, run_isAgg hd, hd', hv]
theorem yl_fieldA {s : TypeId} {fs : Array Field} (hu : P.underlying s = some (.struct fs)) {x : Operand} {cs : Array Value} (h : ev l x = some (.agg cs)) {f : Nat} {fld : Field} (hf : fs[f]? = some fld)
    {d : TypeDesc} (hd : P.underlying fld.type = some d) (hd' : TypeDesc.agg? d = true) {n : Nat} (hs : (P.info? fld.type).map (·.size) = some n) {vs : List Value} (hv : (cs.toList.drop fld.offset).take n = vs) : Yl P R l (.field s x f) ty (.agg vs.toArray) := by
  have hv : cs.extract fld.offset (fld.offset + n) = vs.toArray := by rw [← hv]; apply Array.ext'; simp [List.take_drop, Nat.add_comm]
  intro a w ha hw dst pos after guard
  obtain ⟨i, hi, hn⟩ := Option.map_eq_some_iff.1 hs
  have hz : (sizeOf fld.type).run P w = .ok n w := by simp [sizeOf, typeInfo, program, Sem.run_bind, Sem.run, Result.andThen, hi, hn, pure, Sem.pure]
  simp only [execOp, ha.ev h, Instr.field]
  simp [Sem.run_bind, Sem.run_pure, Result.andThen, run_underlying' hu, hf, asAgg, part, run_isAgg hd, hd', hz, hv]
end
end Go.Proofs.Ytjhbgciocffihaa
