/- Plain words of layer 8: records, what is held; how they lie in cells. -/
import Derived.Test.YtjhbgciocffihaaK6
set_option linter.unusedVariables false
set_option linter.unusedSimpArgs false
namespace Go.Proofs.Ytjhbgciocffihaa
structure Rec where
  id : Int
  cls : Int
  made : Int
  size : Int
  packed : Int
  deriving DecidableEq
def Rec.cells (r : Rec) : List Value := [.int .i64 r.id, .int .i64 r.cls, .int .i64 r.made, .int .i64 r.size, .int .i64 r.packed]
def encR (r : Rec) : Value := .agg #[.int .i64 r.id, .int .i64 r.cls, .int .i64 r.made, .int .i64 r.size, .int .i64 r.packed]
def encRec : Enc Rec := ⟨Rec.cells, 5, fun _ => rfl, fun a u h => by simp [Rec.cells] at h; rcases h with rfl | rfl | rfl | rfl | rfl <;> rfl, by decide⟩
structure Hld where
  r : Rec
  small : Bool
  sent : Int
  deriving DecidableEq
def Hld.cells (h : Hld) : List Value := [.int .i64 h.r.id, .int .i64 h.r.cls, .int .i64 h.r.made, .int .i64 h.r.size, .int .i64 h.r.packed, .bool h.small, .int .i64 h.sent]
def encHld : Enc Hld := ⟨Hld.cells, 7, fun _ => rfl, fun a u h => by simp [Hld.cells] at h; rcases h with rfl | rfl | rfl | rfl | rfl | rfl | rfl <;> rfl, by decide⟩
def encH (h : Hld) : Value := .agg #[.int .i64 h.r.id, .int .i64 h.r.cls, .int .i64 h.r.made, .int .i64 h.r.size, .int .i64 h.r.packed, .bool h.small, .int .i64 h.sent]
/-- P8.1: a record is valid. -/
def Rec.Ok (r : Rec) : Prop := 0 ≤ r.id ∧ r.id ≤ 1073741824 ∧ 0 ≤ r.cls ∧ r.cls ≤ 9 ∧ 0 ≤ r.made ∧ r.made ≤ 1073741824 ∧ 1 ≤ r.size ∧ r.size ≤ 16777216 ∧ 1 ≤ r.packed ∧ r.packed ≤ r.size
instance (r : Rec) : Decidable r.Ok := by unfold Rec.Ok; infer_instance
def sgn (a b : Int) : Int := if a < b then -1 else if b < a then 1 else 0
def orI : List Int → Int
  | [] => 0
  | x :: xs => if x ≠ 0 then x else orI xs
def cmpR (a b : Rec) : Int := orI [sgn b.cls a.cls, sgn b.made a.made, sgn a.id b.id]

/-! buffers -/
structure BS where
  cap : Int
  used : Int
  time : Int
  L : List Hld
def fnd (L : List Hld) (k : Int) : Option Hld := L.find? fun h => decide (h.r.id = k)
def Hld.bytes (h : Hld) : Int := if h.small then h.r.packed else h.r.size
def Hld.sm (h : Hld) : Option Int := if h.small then some 1 else none
def Hld.st (h : Hld) : Option Int := if h.sent = -1 then none else some h.sent
def ids (L : List Hld) : List Int := L.map (·.r.id)
structure Maps (L : List Hld) (mr : List (Int × Rec)) (ms mt : List (Int × Int)) : Prop where
  r : ∀ k, assoc mr k = (fnd L k).map (·.r)
  s : ∀ k, assoc ms k = (fnd L k).bind Hld.sm
  t : ∀ k, assoc mt k = (fnd L k).bind Hld.st
def bufCells (s : BS) (vo : Value) (br bs bt : Nat) : List Value := [.int .i64 s.cap, .int .i64 s.used, .int .i64 s.time, vo, .map (some br), .map (some bs), .map (some bt)]
/-- A buffer's struct and maps as they lie in memory; vo: what its field 'order' holds. -/
def BufM (b : Nat) (s : BS) (vo : Value) (Ls : List Part) : Prop := ∃ br xr bs xs bt xt mr ms mt, Ls = [pt b (.cells (bufCells s vo br bs bt).toArray 106), xr, xs, xt] ∧
  MapL ik encR br mr xr ∧ MapL ik ik bs ms xs ∧ MapL ik ik bt mt xt ∧ Maps s.L mr ms mt
/-- A buffer: the order, the struct, three maps. -/
def BufR (b : Nat) (s : BS) (Ls : List Part) : Prop := ∃ vo xo L4, Ls = xo :: L4 ∧ Sl encI 2 vo (ids s.L) xo ∧ BufM b s vo L4
/-- .. that is read. -/
def BufMIn (R : List Part) (b : Nat) (s : BS) (vo : Value) : Prop := ∃ br bs bt mr ms mt, RowIn R b 0 (bufCells s vo br bs bt) ∧ MapIn ik encR R br mr ∧ MapIn ik ik R bs ms ∧ MapIn ik ik R bt mt ∧ Maps s.L mr ms mt
def BufIn (R : List Part) (b : Nat) (s : BS) : Prop := ∃ vo, BufMIn R b s vo ∧ Els encI R vo (ids s.L)
theorem BufM.inn {b : Nat} {s : BS} {vo : Value} {Ls R : List Part} (h : BufM b s vo Ls) (hs : ∀ x ∈ Ls, x ∈ R) : BufMIn R b s vo := by
  obtain ⟨br, xr, bs, xs, bt, xt, mr, ms, mt, rfl, h2, h3, h4, h5⟩ := h
  exact ⟨br, bs, bt, mr, ms, mt, RowIn.of_block (hs _ (.head _)) (pt_self _ _) (fun j hj => by simp), ⟨_, hs _ (.tail _ (.head _)), h2⟩, ⟨_, hs _ (.tail _ (.tail _ (.head _))), h3⟩, ⟨_, hs _ (.tail _ (.tail _ (.tail _ (.head _)))), h4⟩, h5⟩
theorem BufR.inn {b : Nat} {s : BS} {Ls R : List Part} (h : BufR b s Ls) (hs : ∀ x ∈ Ls, x ∈ R) : BufIn R b s := by
  obtain ⟨vo, xo, L4, rfl, h1, h2⟩ := h
  exact ⟨vo, h2.inn fun x hx => hs x (.tail _ hx), h1.els (hs _ (.head _))⟩
theorem BufMIn.mono {b : Nat} {s : BS} {vo : Value} {R R' : List Part} (h : BufMIn R b s vo) (hs : ∀ x ∈ R, x ∈ R') : BufMIn R' b s vo := by
  obtain ⟨br, bs, bt, mr, ms, mt, h1, h3, h4, h5, h6⟩ := h
  exact ⟨br, bs, bt, mr, ms, mt, fun j v hj => (h1 j v hj).mono hs, h3.mono hs, h4.mono hs, h5.mono hs, h6⟩
theorem BufMIn.app {b : Nat} {s : BS} {vo : Value} {R R' : List Part} (h : BufMIn R b s vo) : BufMIn (R' ++ R) b s vo := h.mono fun _ hx => List.mem_append_right _ hx
theorem BufIn.app {b : Nat} {s : BS} {R R' : List Part} (h : BufIn R b s) : BufIn (R' ++ R) b s := by
  obtain ⟨vo, h1, h2⟩ := h
  exact ⟨vo, h1.app, h2.app⟩
theorem BufIn.m {b : Nat} {s : BS} {R : List Part} (h : BufIn R b s) : ∃ vo, BufMIn R b s vo := ⟨_, h.choose_spec.1⟩
theorem fnd_filter (L : List Hld) (k j : Int) : fnd (L.filter fun h => decide (h.r.id ≠ k)) j = if j = k then none else fnd L j := by
  induction L with
  | nil => simp [fnd]
  | cons x L ih =>
    by_cases hx : x.r.id = k
    · have e1 : (x :: L).filter (fun h => decide (h.r.id ≠ k)) = L.filter fun h => decide (h.r.id ≠ k) := by simp [hx]
      rw [e1, ih]
      by_cases hj : j = k
      · simp [hj]
      · have : ¬ x.r.id = j := fun e => hj (e.symm.trans hx)
        simp [hj, fnd, this]
    · have e1 : (x :: L).filter (fun h => decide (h.r.id ≠ k)) = x :: L.filter fun h => decide (h.r.id ≠ k) := by simp [hx]
      rw [e1]
      by_cases hj : x.r.id = j
      · have : ¬ j = k := fun e => hx (hj.trans e)
        simp [fnd, hj, this]
      · have e2 : ∀ M : List Hld, fnd (x :: M) j = fnd M j := fun M => by simp [fnd, hj]
        rw [e2, e2, ih]
theorem Maps.del {L : List Hld} {mr : List (Int × Rec)} {ms mt : List (Int × Int)} (h : Maps L mr ms mt) (k : Int) : Maps (L.filter fun h => decide (h.r.id ≠ k)) (Ytjhbgciocffihaa.del mr k) (Ytjhbgciocffihaa.del ms k) (Ytjhbgciocffihaa.del mt k) := by
  refine ⟨fun j => ?_, fun j => ?_, fun j => ?_⟩ <;> rw [assoc_del, fnd_filter] <;> by_cases hj : j = k <;> simp [hj, h.r, h.s, h.t]
theorem fnd_mem {L : List Hld} {k : Int} {h : Hld} (hf : fnd L k = some h) : h ∈ L ∧ h.r.id = k := by
  have h1 := List.mem_of_find?_eq_some hf
  have h2 := List.find?_some hf
  exact ⟨h1, by simpa using h2⟩
theorem fnd_of_mem {L : List Hld} (hn : (ids L).Nodup) {h : Hld} (hm : h ∈ L) : fnd L h.r.id = some h := by
  induction L with
  | nil => cases hm
  | cons x L ih =>
    simp only [ids, List.map_cons, List.nodup_cons] at hn
    rcases List.mem_cons.1 hm with rfl | hm
    · simp [fnd]
    · have : x.r.id ≠ h.r.id := fun e => hn.1 (List.mem_map.2 ⟨h, hm, e.symm⟩)
      have := ih hn.2 hm
      simp_all [fnd]
theorem fnd_none {L : List Hld} {k : Int} : fnd L k = none ↔ k ∉ ids L := by
  simp only [fnd, List.find?_eq_none, ids, List.mem_map, not_exists, not_and]
  constructor
  · intro h x hx he; have := h x hx; simp [he] at this
  · intro h x hx; simp; exact h x hx
end Go.Proofs.Ytjhbgciocffihaa
