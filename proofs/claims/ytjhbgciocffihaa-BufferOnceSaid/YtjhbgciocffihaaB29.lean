-- written by gen.py out of walks texts of my own
import Derived.Test.YtjhbgciocffihaaB28
set_option linter.unusedVariables false
set_option linter.unusedSimpArgs false
set_option maxHeartbeats 4000000
namespace Go.Proofs.Ytjhbgciocffihaa
def rids (xs : List Rec) : List Int := xs.map (·.id)
def fndR (xs : List Rec) (k : Int) : Option Rec := xs.find? fun r => decide (r.id = k)
structure IMap (xs : List Rec) (m : List (Int × Rec)) : Prop where
  at_ : ∀ k, assoc m k = fndR xs k
  keys : (m.map (·.1)).Perm (rids xs)
def SortI (xs : List Rec) : Prop := xs.Pairwise fun a b => a.id < b.id
def ibCells (bm : Nat) : List Value := [.map (some bm)]
/-- An inbox in memory. -/
def InR (b : Nat) (xs : List Rec) (Ls : List Part) : Prop := ∃ bm xm m, Ls = [pt b (.cells (ibCells bm).toArray 128), xm] ∧ MapL ik encR bm m xm ∧ IMap xs m
def InIn (R : List Part) (b : Nat) (xs : List Rec) : Prop := ∃ bm m, RowIn R b 0 (ibCells bm) ∧ MapIn ik encR R bm m ∧ IMap xs m
theorem InR.inn {b : Nat} {xs : List Rec} {Ls R : List Part} (h : InR b xs Ls) (hs : ∀ x ∈ Ls, x ∈ R) : InIn R b xs := by
  obtain ⟨bm, xm, m, rfl, h1, h2⟩ := h
  exact ⟨bm, m, RowIn.of_block (hs _ (.head _)) (pt_self _ _) (fun j hj => by simp), ⟨_, hs _ (.tail _ (.head _)), h1⟩, h2⟩
theorem InR.two {b : Nat} {xs : List Rec} {Ls : List Part} (h : InR b xs Ls) : ∃ x0 x1, Ls = [x0, x1] := by
  obtain ⟨bm, xm, m, rfl, _⟩ := h; exact ⟨_, _, rfl⟩
theorem InIn.app {b : Nat} {xs : List Rec} {R R' : List Part} (h : InIn R b xs) : InIn (R' ++ R) b xs := by
  obtain ⟨bm, m, h1, h2, h3⟩ := h; exact ⟨bm, m, rowIn_app h1, h2.app, h3⟩
theorem fndR_none {xs : List Rec} {k : Int} : fndR xs k = none ↔ k ∉ rids xs := by
  simp only [fndR, List.find?_eq_none, rids, List.mem_map, not_exists, not_and]
  constructor
  · intro h x hx he; have := h x hx; simp at this; exact this he
  · intro h x hx; simpa using h x hx
theorem SortI.nodup {xs : List Rec} (h : SortI xs) : (rids xs).Nodup := List.pairwise_map.2 (h.imp fun h he => by omega)
theorem fndR_of_mem {xs : List Rec} (hn : (rids xs).Nodup) {r : Rec} (hm : r ∈ xs) : fndR xs r.id = some r := by
  induction xs with
  | nil => cases hm
  | cons x xs ih =>
    obtain ⟨h1, h2⟩ := List.nodup_cons.1 hn
    rcases List.mem_cons.1 hm with rfl | hm
    · simp [fndR]
    · have : x.id ≠ r.id := fun he => h1 (List.mem_map.2 ⟨r, hm, he.symm⟩)
      have h3 := ih h2 hm
      simp only [fndR, List.find?_cons, decide_eq_false this] at h3 ⊢
      exact h3
def ltI (r x : Rec) : Bool := decide (x.id < r.id)
def insI (xs : List Rec) (r : Rec) : List Rec := xs.takeWhile (ltI r) ++ r :: xs.dropWhile (ltI r)
def posI (xs : List Rec) (r : Rec) : Nat := (xs.takeWhile (ltI r)).length
theorem tw_take {α : Type} (p : α → Bool) (L : List α) : L.take (L.takeWhile p).length = L.takeWhile p := by
  have h := List.takeWhile_append_dropWhile (p := p) (l := L)
  conv => lhs; rw [← h]
  rw [show ((L.takeWhile p ++ L.dropWhile p).takeWhile p).length = (L.takeWhile p).length by rw [h], List.take_left]
theorem tw_drop {α : Type} (p : α → Bool) (L : List α) : L.drop (L.takeWhile p).length = L.dropWhile p := by
  have h := List.takeWhile_append_dropWhile (p := p) (l := L)
  conv => lhs; rw [← h]
  rw [show ((L.takeWhile p ++ L.dropWhile p).takeWhile p).length = (L.takeWhile p).length by rw [h], List.drop_left]
theorem posI_le (xs : List Rec) (r : Rec) : posI xs r ≤ xs.length := by
  have h := congrArg List.length (tw_take (ltI r) xs)
  simp only [List.length_take] at h
  show (xs.takeWhile (ltI r)).length ≤ _
  omega
theorem posI_part {xs : List Rec} (hs : SortI xs) (r : Rec) : ∀ i (hi : i < xs.length), (xs[i].id < r.id ↔ i < posI xs r) := by
  induction xs with
  | nil => intro i hi; exact absurd hi (by simp)
  | cons x xs ih =>
    intro i hi
    obtain ⟨h1, h2⟩ := List.pairwise_cons.1 hs
    by_cases hx : x.id < r.id
    · have hp : posI (x :: xs) r = posI xs r + 1 := by simp [posI, List.takeWhile_cons, ltI, hx]
      cases i with
      | zero => simp [hp, hx]
      | succ i => rw [hp]; simpa using ih h2 i (by simpa using hi)
    · have hp : posI (x :: xs) r = 0 := by simp [posI, List.takeWhile_cons, ltI, hx]
      rw [hp]
      cases i with
      | zero => simpa using hx
      | succ i =>
        simp only [List.getElem_cons_succ, Nat.not_lt_zero, iff_false]
        have := h1 _ (List.getElem_mem (show i < xs.length by simpa using hi))
        omega
theorem at_pos {xs : List Rec} (hs : SortI xs) (r : Rec) : (∃ h : posI xs r < xs.length, xs[posI xs r].id = r.id) ↔ r.id ∈ rids xs := by
  constructor
  · rintro ⟨h, he⟩; exact List.mem_map.2 ⟨_, List.getElem_mem h, he⟩
  · intro h
    obtain ⟨x, hx, he⟩ := List.mem_map.1 h
    obtain ⟨i, hi, rfl⟩ := List.getElem_of_mem hx
    have hp := posI_part hs r
    have h1 : ¬ i < posI xs r := fun hl => by have := (hp i hi).2 hl; omega
    by_cases h2 : posI xs r = i
    · exact ⟨by omega, by simp only [h2]; exact he⟩
    · exfalso
      have h3 : posI xs r < xs.length := by omega
      have h4 := List.pairwise_iff_getElem.1 hs (posI xs r) i h3 hi (by omega)
      have h5 := (hp _ h3).1
      have : ¬ xs[posI xs r].id < r.id := fun hl => absurd (h5 hl) (Nat.lt_irrefl _)
      omega
theorem insI_sorted {xs : List Rec} (hs : SortI xs) {r : Rec} (hn : r.id ∉ rids xs) : SortI (insI xs r) := by
  have hp := posI_part hs r
  have hlt : ∀ x ∈ xs.takeWhile (ltI r), x.id < r.id := fun x hx => of_decide_eq_true (show decide (x.id < r.id) = true from mem_tw (p := ltI r) hx)
  have hge : ∀ x ∈ xs.dropWhile (ltI r), r.id < x.id := by
    intro x hx
    rw [← tw_drop] at hx
    obtain ⟨j, hj, rfl⟩ := List.mem_drop_iff_getElem.1 hx
    have hlj : posI xs r + j < xs.length := by show (xs.takeWhile (ltI r)).length + j < _; omega
    have h1 := hp (posI xs r + j) hlj
    have h2 : ¬ xs[posI xs r + j].id < r.id := fun h => by have := h1.1 h; omega
    have h3 : xs[posI xs r + j].id ≠ r.id := fun h => hn (h ▸ List.mem_map.2 ⟨_, List.getElem_mem _, rfl⟩)
    show r.id < xs[posI xs r + j].id
    omega
  unfold insI SortI
  rw [List.pairwise_append]
  refine ⟨hs.sublist (List.takeWhile_sublist _), List.pairwise_cons.2 ⟨hge, hs.sublist (List.dropWhile_sublist _)⟩, ?_⟩
  intro a ha b hb
  rcases List.mem_cons.1 hb with rfl | hb
  · exact hlt a ha
  · have := hlt a ha; have := hge b hb; omega
theorem insI_perm (xs : List Rec) (r : Rec) : (insI xs r).Perm (r :: xs) := by
  unfold insI
  have h := List.takeWhile_append_dropWhile (p := ltI r) (l := xs)
  conv => rhs; rw [← h]
  exact List.perm_middle
theorem fndR_insI {xs : List Rec} {r : Rec} (hn : r.id ∉ rids xs) (hs : SortI xs) (k : Int) : fndR (insI xs r) k = if k = r.id then some r else fndR xs k := by
  have h1 := insI_sorted hs hn
  by_cases hk : k = r.id
  · rw [if_pos hk, hk]; exact fndR_of_mem h1.nodup ((insI_perm xs r).mem_iff.2 (List.mem_cons_self ..))
  · rw [if_neg hk]
    cases hq : fndR xs k with
    | none =>
      rw [fndR_none] at hq ⊢
      intro h
      rcases List.mem_cons.1 (((insI_perm xs r).map (·.id)).mem_iff.1 h) with h | h
      · exact hk h
      · exact hq h
    | some y =>
      have hy := List.mem_of_find?_eq_some hq
      have he : y.id = k := by have := List.find?_some hq; simpa using this
      rw [← he]; exact fndR_of_mem h1.nodup ((insI_perm xs r).mem_iff.2 (List.mem_cons_of_mem _ hy))
theorem IMap.ins {xs : List Rec} {m : List (Int × Rec)} (h : IMap xs m) (hs : SortI xs) {r : Rec} (hn : r.id ∉ rids xs) : IMap (insI xs r) (upd m r.id r) := by
  refine ⟨fun k => ?_, ?_⟩
  · rw [assoc_upd, fndR_insI hn hs, h.at_]
  · have h1 : r.id ∉ m.map (·.1) := fun hh => hn (h.keys.mem_iff.1 hh)
    rw [upd_keys, if_neg h1]
    exact (List.perm_append_comm.trans ((h.keys.cons _).trans (((insI_perm xs r).map (fun x : Rec => x.id)).symm)))
theorem IMap.len {xs : List Rec} {m : List (Int × Rec)} (h : IMap xs m) : m.length = xs.length := by
  have := h.keys.length_eq; simpa [rids] using this
theorem IMap.some_ {xs : List Rec} {m : List (Int × Rec)} (h : IMap xs m) (k : Int) : (assoc m k).isSome = decide (k ∈ rids xs) := by
  rw [h.at_]
  cases hq : fndR xs k with
  | none => have := fndR_none.1 hq; simp [this]
  | some y =>
    have hy := List.mem_of_find?_eq_some hq
    have he : y.id = k := by have := List.find?_some hq; simpa using this
    have : k ∈ rids xs := he ▸ List.mem_map.2 ⟨_, hy, rfl⟩
    simp [this]
def TakeRes (xs : List Rec) (r : Rec) (xs' : List Rec) (ok : Bool) (er : Int) : Prop :=
  (¬ r.Ok ∧ xs' = xs ∧ ok = false ∧ er = 2) ∨ (r.Ok ∧ r.id ∈ rids xs ∧ xs' = xs ∧ ok = false ∧ er = 0) ∨ (r.Ok ∧ r.id ∉ rids xs ∧ 256 ≤ xs.length ∧ xs' = xs ∧ ok = false ∧ er = 11) ∨ (r.Ok ∧ r.id ∉ rids xs ∧ xs.length < 256 ∧ xs' = insI xs r ∧ ok = true ∧ er = 0)
theorem TakeRes.det {xs : List Rec} {r : Rec} {a b : List Rec} {o1 o2 : Bool} {e1 e2 : Int} (h1 : TakeRes xs r a o1 e1) (h2 : TakeRes xs r b o2 e2) : a = b ∧ o1 = o2 ∧ e1 = e2 := by
  rcases h1 with ⟨a1, rfl, rfl, rfl⟩ | ⟨a1, a2, rfl, rfl, rfl⟩ | ⟨a1, a2, a3, rfl, rfl, rfl⟩ | ⟨a1, a2, a3, rfl, rfl, rfl⟩ <;>
  rcases h2 with ⟨b1, rfl, rfl, rfl⟩ | ⟨b1, b2, rfl, rfl, rfl⟩ | ⟨b1, b2, b3, rfl, rfl, rfl⟩ | ⟨b1, b2, b3, rfl, rfl, rfl⟩ <;>
  first
  | exact ⟨rfl, rfl, rfl⟩
  | exact absurd b1 a1
  | exact absurd a1 b1
  | exact absurd a2 b2
  | exact absurd b2 a2
  | exact absurd a3 (by omega)
structure Inb (xs : List Rec) : Prop where
  srt : SortI xs
  ok : ∀ r ∈ xs, r.Ok
  len : xs.length ≤ 256
theorem TakeRes.inb {xs : List Rec} {r : Rec} {a : List Rec} {o : Bool} {e : Int} (h : TakeRes xs r a o e) (hI : Inb xs) : Inb a := by
  rcases h with ⟨a1, rfl, _⟩ | ⟨a1, a2, rfl, _⟩ | ⟨a1, a2, a3, rfl, _⟩ | ⟨a1, a2, a3, rfl, _⟩
  · exact hI
  · exact hI
  · exact hI
  · have hp := insI_perm xs r
    refine ⟨insI_sorted hI.srt a2, fun x hx => ?_, by rw [hp.length_eq]; simp; omega⟩
    rcases List.mem_cons.1 (hp.mem_iff.1 hx) with rfl | hx
    · exact a1
    · exact hI.ok x hx
theorem inb_nil : Inb [] := ⟨.nil, by simp, by simp⟩
theorem NewInbox_spec {e : Env} {w : World} {rs : List Part}  (hT : Tot e w rs) : Spec Try.prog 31 #[] e w rs (fun v L => ∃ b, v = .pointer (some ⟨b, 0, none⟩) ∧ InR b [] L) := by
  refine spec_body Try.func31 rfl Try.ntmps31 rfl rfl ?_
  intro a hf
  refine wpIn_seq ?_
  -- region 0 (buffer.go:232)
  refine wp_reg ([]) ([] ++ rs) [(0, true)] mixed (by kernel_rfl) (hT) ?_; intro w hT
  refine rd hf rfl (yl_assign rfl) rfl rfl ?_; intro a hf
  refine plan_nil ?_
  refine wpIn_seq ?_
  -- region 1 (buffer.go:232)
  refine wp_reg ([]) ([] ++ rs) [(0, false), (1, true), (2, false), (3, true)] mixed (by kernel_rfl) (hT) ?_; intro w hT
  refine ef hf hT rfl rfl ef_makeMap rfl (l' := [(0, _)]) rfl ?_; rintro a w v L ⟨m1, rfl, rfl⟩ hf hT
  have hqm1 := mapL_new (encK := ik) (encV := encR) m1
  refine rd hf rfl (yl_build rfl Try.underlying128 zr_128 (places := [(0, 1)]) (by kernel_rfl) (by kernel_rfl) (out := ibCells m1) rfl) rfl rfl ?_; intro a hf
  refine ef hf hT rfl rfl (ef_box rfl) rfl (l' := [(2, _), (1, _), (0, _)]) rfl ?_; rintro a w v L ⟨b1, rfl, rfl⟩ hf hT
  refine rw_ hf rfl (yl_assign rfl) rfl (l' := [(0, _), (3, _), (2, _), (1, _)]) rfl ?_; intro a hf
  refine plan_nil ?_
  replace hf := hf.sel [0] (l' := [(0, _)]) rfl
  refine wpIn_ret ?_
  exact body_ret hf (L := [_, _]) (hT) rfl rfl ⟨b1, rfl, m1, _, _, rfl, hqm1, ⟨fun _ => rfl, .refl _⟩⟩
theorem ivalid_spec {e : Env} {w : World} {rs : List Part} (b : Nat) (xs : List Rec) (hB : InIn rs b xs) (hT : Tot e w rs) : Spec Try.prog 69 #[.pointer (some ⟨b, 0, none⟩)] e w rs (fun v L => v = .bool true ∧ L = []) := by
  refine spec_body Try.func69 rfl Try.ntmps69 rfl rfl ?_
  intro a hf
  obtain ⟨bm, m, hrow, hM, hIM⟩ := hB
  refine wpIn_seq ?_
  -- region 0 (buffer.go:235)
  refine wp_reg ([]) ([] ++ rs) [(0, true)] mixed (by kernel_rfl) (hT) ?_; intro w hT
  refine rd hf rfl (yl_assign rfl) rfl rfl ?_; intro a hf
  refine plan_nil ?_
  refine wpIn_seq ?_
  -- region 1 (buffer.go:235)
  refine wp_reg ([]) ([] ++ rs) [(0, true), (1, true), (2, true), (3, true), (4, true), (5, true), (6, true), (7, true), (8, true), (9, true)] mixed (by kernel_rfl) (hT) ?_; intro w hT
  refine rd hf rfl (yl_move rfl) rfl rfl ?_; intro a hf
  refine rd hf rfl (yl_ptrNil rfl rfl Try.underlying71 rfl) rfl rfl ?_; intro a hf
  refine rd hf rfl (yl_move rfl) rfl rfl ?_; intro a hf
  refine rdT hf rfl rfl rfl rfl (rfl) (yl_move rfl) rfl (l' := [(6, _), (5, _), (4, _), (3, _), (2, _), (0, _)]) rfl ?_; intro a hf
  refine rdT hf rfl rfl rfl rfl (rfl) (yl_nil rfl) rfl (l' := [(7, _), (6, _), (5, _), (4, _), (3, _), (2, _), (0, _)]) rfl ?_; intro a hf
  refine rdT hf rfl rfl rfl rfl (rfl) (yl_faddr Try.underlying128 rfl rfl sz_29 (k := 0) rfl) rfl (l' := [(8, _), (7, _), (6, _), (5, _), (4, _), (3, _), (2, _), (0, _)]) rfl ?_; intro a hf
  refine rdT hf rfl rfl rfl rfl (rfl) (yl_load Try.underlying29 rfl rfl (hrow 0 _ rfl).app) rfl (l' := [(9, _), (8, _), (7, _), (6, _), (5, _), (4, _), (3, _), (2, _), (0, _)]) rfl ?_; intro a hf
  refine rdT hf rfl rfl rfl rfl (rfl) (yl_mapNil rfl rfl Try.underlying29 rfl) rfl (l' := [(10, _), (9, _), (8, _), (7, _), (6, _), (5, _), (4, _), (3, _), (2, _), (0, _)]) rfl ?_; intro a hf
  refine rd hf rfl (yl_pickTT rfl rfl rfl) rfl rfl ?_; intro a hf
  refine rw_ hf rfl (yl_assign rfl) rfl (l' := [(2, _), (11, _), (10, _), (9, _), (8, _), (7, _), (6, _), (5, _), (4, _), (3, _), (0, _)]) rfl ?_; intro a hf
  refine plan_nil ?_
  replace hf := hf.sel [2] (l' := [(2, _)]) rfl
  refine wpIn_ret ?_
  exact body_ret hf (L := []) hT rfl rfl ⟨rfl, rfl⟩
theorem ICopy_spec {e : Env} {w : World} {rs : List Part} (b : Nat) (xs : List Rec) (hB : InIn rs b xs) (hT : Tot e w rs) : Spec Try.prog 32 #[.pointer (some ⟨b, 0, none⟩)] e w rs (fun v L => ∃ b', v = .pointer (some ⟨b', 0, none⟩) ∧ InR b' xs L) := by
  refine spec_body Try.func32 rfl Try.ntmps32 rfl rfl ?_
  intro a hf
  have hB0 := hB
  obtain ⟨bm, m, hrow, hM, hIM⟩ := hB
  refine wpIn_seq ?_
  -- region 0 (buffer.go:281)
  refine wp_reg ([]) ([] ++ rs) [(0, true)] mixed (by kernel_rfl) (hT) ?_; intro w hT
  refine rd hf rfl (yl_assign rfl) rfl rfl ?_; intro a hf
  refine plan_nil ?_
  refine wpIn_seq ?_
  refine wpIn_seq ?_
  -- region 1 (buffer.go:282)
  refine wp_reg ([]) ([] ++ rs) [(0, true), (1, false), (2, true)] mixed (by kernel_rfl) (hT) ?_; intro w hT
  refine rd hf rfl (yl_move rfl) rfl rfl ?_; intro a hf
  refine ef_call hf rfl (wanted_none _ _ rfl) rfl rfl (by kernel_rfl) (Spec.frame (L2 := []) (ivalid_spec b xs hB0.app hT)) rfl (l' := [(3, _), (2, _), (0, _)]) rfl ?_; rintro a w v L ⟨L1, ⟨rfl, rfl⟩, rfl⟩ hf hT
  refine rd hf rfl (yl_not rfl) rfl rfl ?_; intro a hf
  refine plan_nil ?_
  replace hf := hf.sel [5, 0] (l' := [(5, _), (0, _)]) rfl
  refine wp_ifFF hf rfl (rfl) ?_
  refine wpIn_skip ?_
  refine wpIn_seq ?_
  -- region 3 (buffer.go:285)
  refine wp_reg ([]) ([] ++ rs) [(0, true), (1, true), (2, true), (3, true), (4, false), (5, true), (6, false), (7, true)] mixed (by kernel_rfl) (hT) ?_; intro w hT
  refine rd hf rfl (yl_move rfl) rfl rfl ?_; intro a hf
  refine rd hf rfl (yl_nil rfl) rfl rfl ?_; intro a hf
  refine rd hf rfl (yl_faddr Try.underlying128 rfl rfl sz_29 (k := 0) rfl) rfl rfl ?_; intro a hf
  refine rd hf rfl (yl_load Try.underlying29 rfl rfl (hrow 0 _ rfl).app) rfl rfl ?_; intro a hf
  refine ef_call hf rfl (wanted_none _ _ rfl) rfl rfl (by kernel_rfl) (Spec.frame (L2 := []) (CloneR_spec bm m hM.app hT)) rfl (l' := [(9, _), (8, _), (7, _), (6, _), (5, _), (0, _)]) rfl ?_; rintro a w v L ⟨L1, ⟨c1, Z1, rfl, hZ1, rfl⟩, rfl⟩ hf hT
  refine rd hf rfl (yl_build rfl Try.underlying128 zr_128 (places := [(0, 1)]) (by kernel_rfl) (by kernel_rfl) (out := ibCells c1) rfl) rfl rfl ?_; intro a hf
  refine ef hf hT rfl rfl (ef_box rfl) rfl (l' := [(11, _), (10, _), (9, _), (8, _), (7, _), (6, _), (5, _), (0, _)]) rfl ?_; rintro a w v L ⟨b1, rfl, rfl⟩ hf hT
  refine rd hf rfl (yl_assign rfl) rfl rfl ?_; intro a hf
  refine plan_nil ?_
  replace hf := hf.sel [2] (l' := [(2, _)]) rfl
  refine wpIn_ret ?_
  exact body_ret hf (L := [_, _]) (hT) rfl rfl ⟨b1, rfl, c1, _, _, rfl, hZ1, hIM⟩
theorem Take_spec {e : Env} {w : World} {rs : List Part} (b : Nat) (xs : List Rec) (Lb : List Part) (hB : InR b xs Lb) (hI : Inb xs) (r : Rec) (hT : Tot e w (Lb ++ rs)) : Spec Try.prog 33 #[.pointer (some ⟨b, 0, none⟩), encR r] e w rs (fun v L => ∃ xs' ok er Lb', v = .tuple #[.bool ok, .int .i64 er] ∧ InR b xs' Lb' ∧ L = Lb' ∧ TakeRes xs r xs' ok er) := by
  refine spec_body Try.func33 rfl Try.ntmps33 rfl rfl ?_
  intro a hf
  have hB0 := hB
  obtain ⟨bm, xm, m, rfl, hM, hIM⟩ := hB
  refine wpIn_seq ?_
  -- region 0 (buffer.go:238)
  refine wp_reg ([]) ([_, _] ++ rs) [(0, false), (1, true), (2, true)] mixed (by kernel_rfl) (hT) ?_; intro w hT
  refine ef hf hT rfl rfl (ef_box rfl) rfl (l' := [(0, _), (1, _)]) rfl ?_; rintro a w v L ⟨b1, rfl, rfl⟩ hf hT
  refine rd hf rfl (yl_assign rfl) rfl rfl ?_; intro a hf
  refine rd hf rfl (yl_assign rfl) rfl rfl ?_; intro a hf
  refine plan_nil ?_
  replace hf := hf.sel [3, 0] (l' := [(3, _), (0, _)]) rfl
  refine wpIn_seq ?_
  refine wpIn_seq ?_
  -- region 1 (buffer.go:239)
  refine wp_reg ([]) ([_, _, _] ++ rs) [(0, true), (1, false), (2, true)] mixed (by kernel_rfl) (hT) ?_; intro w hT
  refine rd hf rfl (yl_move rfl) rfl rfl ?_; intro a hf
  refine ef_call hf rfl (wanted_none _ _ rfl) rfl rfl (by kernel_rfl) (Spec.frame (L2 := []) (ivalid_spec b xs (hB0.inn (fun x hx => by rcases mem2 hx with rfl | rfl; exact .tail _ (.head _); exact .tail _ (.tail _ (.head _)))) hT)) rfl (l' := [(9, _), (3, _), (0, _)]) rfl ?_; rintro a w v L ⟨L1, ⟨rfl, rfl⟩, rfl⟩ hf hT
  refine rd hf rfl (yl_not rfl) rfl rfl ?_; intro a hf
  refine plan_nil ?_
  refine wp_ifFF hf rfl (rfl) ?_
  refine wpIn_skip ?_
  refine wpIn_seq ?_
  refine wpIn_seq ?_
  -- region 3 (buffer.go:242)
  refine wp_reg ([]) ([_, _, _] ++ rs) [(0, true), (1, false), (2, true)] mixed (by kernel_rfl) (hT) ?_; intro w hT
  refine rd hf rfl (yl_loadB Try.underlying31 rfl sz_31 (vs := r.cells) (.head _) rfl (pt_self _ _) rfl rfl) rfl rfl ?_; intro a hf
  refine ef_call hf rfl (wanted_none _ _ rfl) rfl rfl (by kernel_rfl) (Spec.frame (L2 := []) (Check_spec r hT)) rfl (l' := [(12, _), (11, _), (10, _), (9, _), (3, _), (0, _)]) rfl ?_; rintro a w v L ⟨L1, ⟨rfl, rfl⟩, rfl⟩ hf hT
  refine rd hf rfl (yl_assign rfl) rfl rfl ?_; intro a hf
  refine plan_nil ?_
  replace hf := hf.sel [6, 3, 0] (l' := [(6, _), (3, _), (0, _)]) rfl
  refine wpIn_seq ?_
  -- region 4 (buffer.go:242)
  refine wp_reg ([]) ([_, _, _] ++ rs) [(0, true), (1, true)] mixed (by kernel_rfl) (hT) ?_; intro w hT
  refine rd hf rfl (yl_move rfl) rfl rfl ?_; intro a hf
  refine rd hf rfl (yl_cmp rfl rfl rfl) rfl rfl ?_; intro a hf
  refine plan_nil ?_
  refine wp_ifd hf rfl (fun hok => ?_) (fun hok => ?_)
  · -- then
    have hok' : ¬ r.Ok := fun h => hok (by rw [if_pos h])
    refine wpIn_seq ?_
    -- region 5 (buffer.go:243)
    refine wp_reg ([]) ([_, _, _] ++ rs) [(0, true), (1, true), (2, true)] mixed (by kernel_rfl) (hT) ?_; intro w hT
    refine rd hf rfl (yl_move rfl) rfl rfl ?_; intro a hf
    refine rd hf rfl (yl_assign rfl) rfl rfl ?_; intro a hf
    refine rd hf rfl (yl_assign rfl) rfl rfl ?_; intro a hf
    refine plan_nil ?_
    replace hf := hf.sel [5, 4] (l' := [(5, _), (4, _)]) rfl
    refine wpIn_ret ?_
    exact body_ret hf (L := [_, _]) ((hT.brings [0]).tail) rfl rfl ⟨xs, false, 2, _, (by rw [if_neg hok']; rfl), hB0, rfl, .inl ⟨hok', rfl, rfl, rfl⟩⟩
  · -- else
    have hrok : r.Ok := by by_cases h : r.Ok; exact h; exact absurd (by rw [if_neg h]; decide) hok
    refine wpIn_skip ?_
    refine wpIn_seq ?_
    refine wpIn_seq ?_
    -- region 6 (buffer.go:245)
    refine wp_reg ([]) ([_, _, _] ++ rs) [(0, true), (1, true), (2, true), (3, true), (4, true), (5, true), (6, true), (7, true), (8, true), (9, true), (10, false), (11, false), (12, true)] mixed (by kernel_rfl) (hT) ?_; intro w hT
    refine rd hf rfl (yl_move rfl) rfl rfl ?_; intro a hf
    refine rd hf rfl (yl_nil rfl) rfl rfl ?_; intro a hf
    refine rd hf rfl (yl_faddr Try.underlying128 rfl rfl sz_29 (k := 0) rfl) rfl rfl ?_; intro a hf
    refine rd hf rfl (yl_load Try.underlying29 rfl rfl ⟨_, .tail _ (.head _), _, _, _, pt_self _ _, rfl⟩) rfl rfl ?_; intro a hf
    refine rd hf rfl (yl_faddr Try.underlying31 rfl rfl sz_2 (k := 0) rfl) rfl rfl ?_; intro a hf
    refine rd hf rfl (yl_load Try.underlying2 rfl rfl ⟨_, .head _, _, _, _, pt_self _ _, rfl⟩) rfl rfl ?_; intro a hf
    refine rd hf rfl (yl_lookupOkE kI Try.underlying29 zr_31 rfl rfl ⟨_, .tail _ (.tail _ (.head _)), hM⟩ (show _ = encR ((fndR xs r.id).getD ⟨0, 0, 0, 0, 0⟩) from by rw [hIM.at_]; cases fndR xs r.id <;> rfl) (show _ = decide (r.id ∈ rids xs) from hIM.some_ _)) rfl rfl ?_; intro a hf
    refine rd hf rfl (yl_move rfl) rfl rfl ?_; intro a hf
    refine rd hf rfl (yl_extract rfl rfl) rfl rfl ?_; intro a hf
    refine rd hf rfl (yl_extract rfl rfl) rfl rfl ?_; intro a hf
    refine ef hf hT rfl rfl (ef_alloc zr_31) rfl (l' := [(26, _), (25, _), (17, _), (24, _), (23, _), (22, _), (21, _), (20, _), (19, _), (18, _), (15, _), (14, _), (6, _), (3, _), (0, _)]) rfl ?_; rintro a w v L ⟨b2, rfl, rfl⟩ hf hT
    refine efS hf hT rfl rfl (ef_storeW rfl rfl sz_31 rfl rfl rfl) ?_; rintro w L rfl hT
    refine rd hf rfl (yl_assign rfl) rfl rfl ?_; intro a hf
    refine plan_nil ?_
    replace hf := hf.sel [8, 3, 0] (l' := [(8, _), (3, _), (0, _)]) rfl
    refine wpIn_seq ?_
    -- region 7 (buffer.go:245)
    refine wp_reg ([]) ([_, _, _, _] ++ rs) [(0, true)] mixed (by kernel_rfl) (hT) ?_; intro w hT
    refine rd hf rfl (yl_move rfl) rfl rfl ?_; intro a hf
    refine plan_nil ?_
    refine wp_ifd hf rfl (fun hin => ?_) (fun hin => ?_)
    · -- then
      refine wpIn_seq ?_
      -- region 8 (buffer.go:246)
      refine wp_reg ([]) ([_, _, _, _] ++ rs) [(0, true), (1, true)] mixed (by kernel_rfl) (hT) ?_; intro w hT
      refine rd hf rfl (yl_assign rfl) rfl rfl ?_; intro a hf
      refine rd hf rfl (yl_assign rfl) rfl rfl ?_; intro a hf
      refine plan_nil ?_
      replace hf := hf.sel [5, 4] (l' := [(5, _), (4, _)]) rfl
      refine wpIn_ret ?_
      exact body_ret hf (L := [_, _]) ((hT.brings [1, 1]).tail.tail) rfl rfl ⟨xs, false, 0, _, rfl, hB0, rfl, .inr (.inl ⟨hrok, hin, rfl, rfl, rfl⟩)⟩
    · -- else
      
      refine wpIn_skip ?_
      refine wpIn_seq ?_
      refine wpIn_seq ?_
      -- region 9 (buffer.go:248)
      refine wp_reg ([]) ([_, _, _, _] ++ rs) [(0, true), (1, true), (2, true), (3, true), (4, true), (5, true)] mixed (by kernel_rfl) (hT) ?_; intro w hT
      refine rd hf rfl (yl_move rfl) rfl rfl ?_; intro a hf
      refine rd hf rfl (yl_nil rfl) rfl rfl ?_; intro a hf
      refine rd hf rfl (yl_faddr Try.underlying128 rfl rfl sz_29 (k := 0) rfl) rfl rfl ?_; intro a hf
      refine rd hf rfl (yl_load Try.underlying29 rfl rfl ⟨_, .tail _ (.tail _ (.head _)), _, _, _, pt_self _ _, rfl⟩) rfl rfl ?_; intro a hf
      refine rd hf rfl (yl_lenMap Try.underlying29 rfl ⟨_, .tail _ (.tail _ (.tail _ (.head _))), hM⟩) rfl rfl ?_; intro a hf
      refine rd hf rfl (yl_cmp rfl rfl rfl) rfl rfl ?_; intro a hf
      refine plan_nil ?_
      replace hf := hf.sel [33, 3, 0] (l' := [(33, _), (3, _), (0, _)]) rfl
      refine wp_ifd hf rfl (fun hfull => ?_) (fun hfull => ?_)
      · -- then
        have hml := hIM.len
        refine wpIn_seq ?_
        -- region 10 (buffer.go:249)
        refine wp_reg ([]) ([_, _, _, _] ++ rs) [(0, true), (1, true)] mixed (by kernel_rfl) (hT) ?_; intro w hT
        refine rd hf rfl (yl_assign rfl) rfl rfl ?_; intro a hf
        refine rd hf rfl (yl_assign rfl) rfl rfl ?_; intro a hf
        refine plan_nil ?_
        replace hf := hf.sel [5, 4] (l' := [(5, _), (4, _)]) rfl
        refine wpIn_ret ?_
        exact body_ret hf (L := [_, _]) ((hT.brings [1, 1]).tail.tail) rfl rfl ⟨xs, false, 11, _, rfl, hB0, rfl, .inr (.inr (.inl ⟨hrok, hin, by omega, rfl, rfl, rfl⟩))⟩
      · -- else
        have hml := hIM.len
        refine wpIn_skip ?_
        refine wpIn_seq ?_
        -- region 11 (buffer.go:251)
        refine wp_reg ([]) ([_, _, _, _] ++ rs) [(0, true), (1, true), (2, true), (3, true), (4, true), (5, true), (6, true), (7, false)] mixed (by kernel_rfl) (hT) ?_; intro w hT
        refine rd hf rfl (yl_move rfl) rfl rfl ?_; intro a hf
        refine rd hf rfl (yl_nil rfl) rfl rfl ?_; intro a hf
        refine rd hf rfl (yl_faddr Try.underlying128 rfl rfl sz_29 (k := 0) rfl) rfl rfl ?_; intro a hf
        refine rd hf rfl (yl_load Try.underlying29 rfl rfl ⟨_, .tail _ (.tail _ (.head _)), _, _, _, pt_self _ _, rfl⟩) rfl rfl ?_; intro a hf
        refine rd hf rfl (yl_faddr Try.underlying31 rfl rfl sz_2 (k := 0) rfl) rfl rfl ?_; intro a hf
        refine rd hf rfl (yl_load Try.underlying2 rfl rfl ⟨_, .tail _ (.head _), _, _, _, pt_self _ _, rfl⟩) rfl rfl ?_; intro a hf
        refine rd hf rfl (yl_loadB Try.underlying31 rfl sz_31 (vs := r.cells) (.tail _ (.head _)) rfl (pt_self _ _) rfl rfl) rfl rfl ?_; intro a hf
        replace hT : Tot _ _ ([_] ++ ([_, _, _] ++ rs)) := hT.bring 3
        refine efS_last hf hT rfl rfl (by kernel_rfl) (ef_mapUpdate (v := r) kI Try.underlying29 rfl rfl rfl hM) ?_; rintro w L ⟨M1, hM1, rfl⟩ hT
        replace hf := hf.sel [] (l' := []) rfl
        refine wpIn_seq ?_
        -- region 12 (buffer.go:252)
        refine wp_reg ([]) ([_, _, _, _] ++ rs) [(0, true), (1, true)] mixed (by kernel_rfl) (hT) ?_; intro w hT
        refine rd hf rfl (yl_assign rfl) rfl rfl ?_; intro a hf
        refine rd hf rfl (yl_assign rfl) rfl rfl ?_; intro a hf
        refine plan_nil ?_
        refine wpIn_ret ?_
        exact body_ret hf (L := [_, _]) (((hT.brings [2, 2]).tail.tail.brings [0, 1])) rfl rfl ⟨_, true, 0, _, rfl, ⟨bm, _, _, rfl, hM1, hIM.ins hI.srt hin⟩, rfl, .inr (.inr (.inr ⟨hrok, hin, by omega, rfl, rfl, rfl⟩))⟩
theorem Records_spec {e : Env} {w : World} {rs : List Part} (b : Nat) (xs : List Rec) (hB : InIn rs b xs) (hsrt : SortI xs) (hlen : xs.length ≤ 256) (hT : Tot e w rs) : Spec Try.prog 37 #[.pointer (some ⟨b, 0, none⟩)] e w rs (fun v L => ∃ X, Sl encRec 31 v xs X ∧ L = [X]) := by
  refine spec_body Try.func37 rfl Try.ntmps37 rfl rfl ?_
  intro a hf
  have hB0 := hB
  obtain ⟨bm, m, hrow, hM, hIM⟩ := hB
  obtain ⟨xm, hMR, es, clk, rfl, hEn⟩ := id hM
  refine wpIn_seq ?_
  -- region 0 (buffer.go:269)
  refine wp_reg ([]) ([] ++ rs) [(0, true)] mixed (by kernel_rfl) (hT) ?_; intro w hT
  refine rd hf rfl (yl_assign rfl) rfl rfl ?_; intro a hf
  refine plan_nil ?_
  refine wpIn_seq ?_
  refine wpIn_seq ?_
  -- region 1 (buffer.go:270)
  refine wp_reg ([]) ([] ++ rs) [(0, true), (1, false), (2, true)] mixed (by kernel_rfl) (hT) ?_; intro w hT
  refine rd hf rfl (yl_move rfl) rfl rfl ?_; intro a hf
  refine ef_call hf rfl (wanted_none _ _ rfl) rfl rfl (by kernel_rfl) (Spec.frame (L2 := []) (ivalid_spec b xs hB0.app hT)) rfl (l' := [(6, _), (2, _), (0, _)]) rfl ?_; rintro a w v L ⟨L1, ⟨rfl, rfl⟩, rfl⟩ hf hT
  refine rd hf rfl (yl_not rfl) rfl rfl ?_; intro a hf
  refine plan_nil ?_
  replace hf := hf.sel [8, 0] (l' := [(8, _), (0, _)]) rfl
  refine wp_ifFF hf rfl (rfl) ?_
  refine wpIn_skip ?_
  refine wpIn_seq ?_
  -- region 3 (buffer.go:273)
  refine wp_reg ([]) ([] ++ rs) [(0, true)] mixed (by kernel_rfl) (hT) ?_; intro w hT
  refine rd hf rfl (yl_assign rfl) rfl rfl ?_; intro a hf
  refine plan_nil ?_
  refine wpIn_seq ?_
  refine wpIn_seq ?_
  -- region 4 (buffer.go:274)
  refine wp_reg ([]) ([] ++ rs) [(0, true), (1, true), (2, true), (3, true), (4, false), (5, false), (6, false), (7, true)] mixed (by kernel_rfl) (hT) ?_; intro w hT
  refine rd hf rfl (yl_move rfl) rfl rfl ?_; intro a hf
  refine rd hf rfl (yl_nil rfl) rfl rfl ?_; intro a hf
  refine rd hf rfl (yl_faddr Try.underlying128 rfl rfl sz_29 (k := 0) rfl) rfl rfl ?_; intro a hf
  refine rd hf rfl (yl_load Try.underlying29 rfl rfl (hrow 0 _ rfl).app) rfl rfl ?_; intro a hf
  refine ef_call hf rfl (wanted_none _ _ rfl) rfl rfl (by kernel_rfl) (Spec.frame (L2 := []) (Keys_spec (.map (some bm)) hT)) rfl (l' := [(12, _), (11, _), (10, _), (9, _), (3, _), (8, _), (0, _)]) rfl ?_; rintro a w v L ⟨L1, ⟨bb, rfl, rfl⟩, rfl⟩ hf hT
  refine ef_call hf rfl (wanted_none _ _ rfl) rfl rfl (by kernel_rfl) (Spec.frame (L2 := [_]) (Sorted_spec bb (m.map (·.1)) (Keys_iter bb bm clk es m (RowIn.of_block (.head _) (pt_self _ _) (fun j hj => by simp at hj; obtain rfl : j = 0 := (by omega); rfl)) (by simp [hMR]) hEn) hEn.keys (by rw [List.length_map, hIM.len]; exact Nat.le_trans hlen (by decide)) hT)) rfl (l' := [(13, _), (12, _), (11, _), (10, _), (9, _), (3, _), (8, _), (0, _)]) rfl ?_; rintro a w kv L ⟨L1, ⟨ks, XK, hkp, hK, rfl⟩, rfl⟩ hf hT
  rw [sortI_unique (hkp.trans hIM.keys) (List.pairwise_map.2 hsrt)] at hK
  refine ef hf hT rfl rfl (ef_read (yl_lenE rfl Try.underlying37 (hK.els (.head _)))) rfl (l' := [(14, _), (13, _), (12, _), (11, _), (10, _), (9, _), (3, _), (8, _), (0, _)]) rfl ?_; rintro a w v L ⟨rfl, rfl⟩ hf hT
  refine rd hf rfl (yl_move rfl) rfl rfl ?_; intro a hf
  refine plan_nil ?_
  replace hf := hf.sel [16, 15, 14, 3, 0] (l' := [(16, _), (15, _), (14, _), (3, _), (0, _)]) rfl
  refine wpIn_block ?_
  replace hT := hT.emp
  have hrl : (rids xs).length = xs.length := by simp [rids]
  refine wp_loopS (σ := Nat × Value) (fun (k, q) => [(16, .int .i64 (k : Nat)), (3, q)]) [(15, _), (14, _), (0, _)] (fun (k, q) L => k ≤ xs.length ∧ ∃ XD, Sl encRec 31 q (xs.take k) XD ∧ L = [XD]) (fun (k, q) => xs.length - k) (0, .slice none 0 0) (L := [_]) (R := [_, _] ++ rs) (hf.sel [16, 3, 15, 14, 0] rfl) (⟨Nat.zero_le _, _, sl_nil, rfl⟩) hT ?_
  clear hf hT; rintro ⟨k, q⟩ a w L hf ⟨hk, XD, hD, rfl⟩ hT
  replace hf : Fr _ [(16, .int .i64 (k : Nat)), (3, q), (15, _), (14, _), (0, _)] _ _ := hf
  refine wpIn_seq ?_
  -- region 5 (buffer.go:274)
  refine wp_reg ([]) ([_, _, _] ++ rs) [(0, true)] mixed (by kernel_rfl) (hT) ?_; intro w hT
  refine rd hf rfl (yl_cmp rfl rfl rfl) rfl rfl ?_; intro a hf
  refine plan_nil ?_
  refine wpIn_seq ?_
  refine wp_ifd hf rfl (fun hlt => ?_) (fun hlt => ?_)
  · -- then
    have hltk : k < xs.length := by omega
    have hj : (rids xs)[k]? = some xs[k].id := by simp [rids, hltk]
    have hfk := fndR_of_mem hsrt.nodup (List.getElem_mem hltk)
    refine wpIn_skip ?_
    refine wpIn_seq ?_
    refine wpIn_block ?_
    refine wpIn_seq ?_
    -- region 6 (buffer.go:274)
    refine wp_reg ([]) ([_, _, _] ++ rs) [(0, true), (1, true), (2, true)] mixed (by kernel_rfl) (hT) ?_; intro w hT
    refine rd hf rfl (yl_indexE rfl rfl Try.underlying37 sz_2 (hK.els (.tail _ (.head _))) (by omega) (by omega)) rfl rfl ?_; intro a hf
    refine rd hf rfl (yl_load Try.underlying2 rfl rfl ((hK.els (.tail _ (.head _))).cell hj (f := 0) rfl)) rfl rfl ?_; intro a hf
    refine rd hf rfl (yl_assign rfl) rfl rfl ?_; intro a hf
    refine plan_nil ?_
    replace hf := hf.sel [5, 16, 3, 15, 14, 0] (l' := [(5, _), (16, _), (3, _), (15, _), (14, _), (0, _)]) rfl
    -- region 7 (buffer.go:275)
    refine wp_reg ([_]) ([_, _] ++ rs) [(0, true), (1, true), (2, true), (3, true), (4, true), (5, true), (6, true), (7, false), (8, false), (9, true)] mixed (by kernel_rfl) (hT.brings [0]) ?_; intro w hT
    refine rd hf rfl (yl_move rfl) rfl rfl ?_; intro a hf
    refine rd hf rfl (yl_move rfl) rfl rfl ?_; intro a hf
    refine rd hf rfl (yl_nil rfl) rfl rfl ?_; intro a hf
    refine rd hf rfl (yl_faddr Try.underlying128 rfl rfl sz_29 (k := 0) rfl) rfl rfl ?_; intro a hf
    refine rd hf rfl (yl_load Try.underlying29 rfl rfl (hrow 0 _ rfl).app) rfl rfl ?_; intro a hf
    refine rd hf rfl (yl_move rfl) rfl rfl ?_; intro a hf
    refine rd hf rfl (yl_lookupE kI Try.underlying29 zr_31 rfl rfl hM.app (show _ = encR xs[k] from by rw [hIM.at_, hfk]; rfl)) rfl rfl ?_; intro a hf
    refine ef hf hT rfl rfl (ef_buildSlice (E := encRec) (xs := [xs[k]]) rfl rfl Try.underlying70 zs_31 rfl (by decide) rfl (by decide)) rfl (l' := [(26, _), (25, _), (24, _), (23, _), (22, _), (21, _), (20, _), (5, _), (16, _), (3, _), (15, _), (14, _), (0, _)]) rfl ?_; rintro a w one L ⟨b1, p1, hvp1, hp1, rfl⟩ hf hT
    replace hT : Tot _ _ ([_, _] ++ ([_, _] ++ rs)) := hT.bring 1
    refine ef hf hT rfl rfl (ef_append (E := encRec) (L := [_]) rfl rfl Try.underlying70 zb_31 rfl hD (hp1.els (.tail _ (.head _))) (by simp; omega) (by simp [maxLen]; omega)) rfl (l' := [(27, _), (26, _), (25, _), (24, _), (23, _), (22, _), (21, _), (20, _), (5, _), (16, _), (3, _), (15, _), (14, _), (0, _)]) rfl ?_; rintro a w q2 L ⟨X1, hS1, rfl⟩ hf hT
    refine rw_ hf rfl (yl_assign rfl) rfl (l' := [(3, _), (28, _), (27, _), (26, _), (25, _), (24, _), (23, _), (22, _), (21, _), (20, _), (5, _), (16, _), (15, _), (14, _), (0, _)]) rfl ?_; intro a hf
    refine plan_nil ?_
    replace hf := hf.sel [3, 16, 15, 14, 0] (l' := [(3, _), (16, _), (15, _), (14, _), (0, _)]) rfl
    -- region 8 (buffer.go:274)
    refine wp_reg ([]) ([_, _, _, _] ++ rs) [(0, true), (1, true)] mixed (by kernel_rfl) (hT) ?_; intro w hT
    refine rd hf rfl (yl_add rfl rfl (by unfold inI64; omega)) rfl rfl ?_; intro a hf
    refine rw_ hf rfl (yl_move rfl) rfl (l' := [(16, _), (29, _), (3, _), (15, _), (14, _), (0, _)]) rfl ?_; intro a hf
    refine plan_nil ?_
    exact ⟨(k + 1, q2), _, hf.sel [16, 3, 15, 14, 0] rfl, ⟨by omega, _, by rw [List.take_succ_eq_append_getElem hltk]; exact hS1, rfl⟩, (hT.brings [1]).tail, by first | omega | (dsimp only; omega)⟩
  · -- else
    obtain rfl : k = xs.length := by omega
    rw [List.take_length] at hD
    refine wpIn_exit ?_
    refine then_exit ?_
    refine then_exit ?_
    refine inBlock_hit ?_
    refine wpIn_seq ?_
    -- region 9 (buffer.go:277)
    refine wp_reg ([]) ([_, _, _] ++ rs) [(0, true), (1, true)] mixed (by kernel_rfl) (hT) ?_; intro w hT
    refine rd hf rfl (yl_move rfl) rfl rfl ?_; intro a hf
    refine rd hf rfl (yl_assign rfl) rfl rfl ?_; intro a hf
    refine plan_nil ?_
    replace hf := hf.sel [2] (l' := [(2, _)]) rfl
    refine wpIn_ret ?_
    exact body_ret hf (L := [_]) ((hT.brings [2, 2]).tail.tail) rfl rfl ⟨XD, hD, rfl⟩
end Go.Proofs.Ytjhbgciocffihaa
