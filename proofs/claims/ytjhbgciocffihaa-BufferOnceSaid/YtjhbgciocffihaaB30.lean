-- written by gen.py out of walks texts of my own
import Derived.Test.YtjhbgciocffihaaB29
set_option linter.unusedVariables false
set_option linter.unusedSimpArgs false
set_option maxHeartbeats 4000000
namespace Go.Proofs.Ytjhbgciocffihaa
def runStep (s : List Sp) (x : Int) : List Sp := match s.getLast? with
  | some l => if l.hi + 1 = x then s.set (s.length - 1) ⟨l.lo, x⟩ else s ++ [⟨x, x⟩]
  | none => s ++ [⟨x, x⟩]
def runs (ids : List Int) : List Sp := ids.foldl runStep []
theorem runs_succ {ids : List Int} {k : Nat} (hk : k < ids.length) : runs (ids.take (k + 1)) = runStep (runs (ids.take k)) ids[k] := by
  unfold runs; rw [List.take_succ_eq_append_getElem hk, List.foldl_append]; rfl
structure RO (rn : List Sp) (m : Int) : Prop where
  wf : ∀ p ∈ rn, p.lo ≤ p.hi ∧ p.hi ≤ m
  gap : rn.Pairwise fun a b => a.hi + 1 < b.lo
theorem snoc_last {α : Type} {l : List α} {y : α} (h : l.getLast? = some y) : l = l.dropLast ++ [y] := by
  obtain ⟨M, rfl⟩ := List.getLast?_eq_some_iff.1 h
  simp
theorem set_snoc {α : Type} (l : List α) (y z : α) : (l ++ [y]).set ((l ++ [y]).length - 1) z = l ++ [z] := by
  simp [List.set_append]
theorem RO.step {rn : List Sp} {m x : Int} (h : RO rn m) (hx : m < x) : RO (runStep rn x) x := by
  have key : ∀ l, rn.getLast? = some l → rn = rn.dropLast ++ [l] := fun l hl => snoc_last hl
  unfold runStep
  cases hl : rn.getLast? with
  | none =>
    have := List.getLast?_eq_none_iff.1 hl
    subst this
    exact ⟨fun p hp => by simp at hp; subst hp; exact ⟨Int.le_refl _, Int.le_refl _⟩, by simp⟩
  | some l =>
    have he := key l hl
    generalize rn.dropLast = ini at he
    subst he
    have hlm := h.wf l (by simp)
    have hg := List.pairwise_append.1 h.gap
    simp only
    split
    · rename_i hq
      rw [set_snoc]
      refine ⟨fun p hp => ?_, ?_⟩
      · rcases List.mem_append.1 hp with hp | hp
        · have := h.wf p (by simp [hp]); omega
        · simp at hp; subst hp; simp only; omega
      · rw [List.pairwise_append]
        refine ⟨hg.1, by simp, fun a ha b hb => ?_⟩
        simp at hb; subst hb
        exact hg.2.2 a ha l (by simp)
    · rename_i hq
      refine ⟨fun p hp => ?_, ?_⟩
      · rcases List.mem_append.1 hp with hp | hp
        · have := h.wf p hp; omega
        · simp at hp; subst hp; exact ⟨Int.le_refl _, Int.le_refl _⟩
      · rw [List.pairwise_append]
        refine ⟨h.gap, by simp, fun a ha b hb => ?_⟩
        simp at hb; subst hb
        have ha2 := h.wf a ha
        simp only
        rcases List.mem_append.1 ha with h1 | h1
        · have := hg.2.2 a h1 l (by simp); omega
        · simp at h1; subst h1; omega
theorem runs_ro (ids : List Int) (hs : ids.Pairwise (· < ·)) (b : Int) (hb : ∀ x ∈ ids, b < x) : ∀ k, k ≤ ids.length → RO (runs (ids.take k)) (if h : 0 < k ∧ k ≤ ids.length then ids[k - 1]'(by omega) else b)
  | 0, _ => ⟨by simp [runs], by simp [runs]⟩
  | k + 1, hk => by
    have ih := runs_ro ids hs b hb k (by omega)
    have hkl : k < ids.length := by omega
    rw [dif_pos ⟨by omega, hk⟩, runs_succ hkl]
    simp only [Nat.add_sub_cancel]
    refine ih.step ?_
    split
    · exact List.pairwise_iff_getElem.1 hs _ _ _ _ (by omega)
    · exact hb _ (List.getElem_mem hkl)
theorem runStep_len (s : List Sp) (x : Int) : (runStep s x).length ≤ s.length + 1 := by
  unfold runStep; split
  · split <;> simp
  · simp
theorem runs_len (ids : List Int) : (runs ids).length ≤ ids.length := by
  have : ∀ (ids : List Int) (s : List Sp), (ids.foldl runStep s).length ≤ s.length + ids.length := by
    intro ids
    induction ids with
    | nil => intro s; simp
    | cons x ids ih => intro s; have h1 := ih (runStep s x); have h2 := runStep_len s x; simp only [List.foldl_cons, List.length_cons]; omega
  have h := this ids []; simpa [runs] using h
theorem runStep_mem {s : List Sp} {x : Int} {M : List Int} (h : ∀ p ∈ s, p.lo ∈ M ∧ p.hi ∈ M) (hx : x ∈ M) : ∀ p ∈ runStep s x, p.lo ∈ M ∧ p.hi ∈ M := by
  intro p hp
  unfold runStep at hp
  split at hp
  · rename_i l hl
    have hlm := h l (List.mem_of_getLast? hl)
    split at hp
    · rcases List.mem_or_eq_of_mem_set hp with hp | hp
      · exact h p hp
      · subst hp; exact ⟨hlm.1, hx⟩
    · rcases List.mem_append.1 hp with hp | hp
      · exact h p hp
      · simp at hp; subst hp; exact ⟨hx, hx⟩
  · rcases List.mem_append.1 hp with hp | hp
    · exact h p hp
    · simp at hp; subst hp; exact ⟨hx, hx⟩
theorem runs_mem (M : List Int) : ∀ (ids : List Int), (∀ x ∈ ids, x ∈ M) → ∀ p ∈ runs ids, p.lo ∈ M ∧ p.hi ∈ M := by
  have : ∀ (ids : List Int) (s : List Sp), (∀ x ∈ ids, x ∈ M) → (∀ p ∈ s, p.lo ∈ M ∧ p.hi ∈ M) → ∀ p ∈ ids.foldl runStep s, p.lo ∈ M ∧ p.hi ∈ M := by
    intro ids
    induction ids with
    | nil => intro s _ h; exact h
    | cons x ids ih => intro s h1 h2; exact ih _ (fun y hy => h1 y (List.mem_cons_of_mem _ hy)) (runStep_mem h2 (h1 x (List.mem_cons_self ..)))
  exact fun ids h => this ids [] h (by simp)
/-! the reference's put -/
def putSt (st : List Sp × Sp × List Sp) (p : Sp) : List Sp × Sp × List Sp :=
  if p.hi + 1 < st.2.1.lo then (st.1 ++ [p], st.2.1, st.2.2) else if st.2.1.hi + 1 < p.lo then (st.1, st.2.1, st.2.2 ++ [p])
  else (st.1, ⟨if p.lo < st.2.1.lo then p.lo else st.2.1.lo, if st.2.1.hi < p.hi then p.hi else st.2.1.hi⟩, st.2.2)
def putFo (s : List Sp) (x : Sp) : List Sp × Sp × List Sp := s.foldl putSt ([], x, [])
def putF (s : List Sp) (x : Sp) : List Sp := (putFo s x).1 ++ [(putFo s x).2.1] ++ (putFo s x).2.2
theorem putFo_succ {s : List Sp} {x : Sp} {k : Nat} (hk : k < s.length) : putFo (s.take (k + 1)) x = putSt (putFo (s.take k) x) s[k] := by
  unfold putFo; rw [List.take_succ_eq_append_getElem hk, List.foldl_append]; rfl
structure PO (st : List Sp × Sp × List Sp) (n : Nat) : Prop where
  x : st.2.1.Ok
  b : ∀ p ∈ st.1, p.Ok
  a : ∀ p ∈ st.2.2, p.Ok
  n : st.1.length + st.2.2.length ≤ n
theorem PO.step {st : List Sp × Sp × List Sp} {n : Nat} (h : PO st n) {p : Sp} (hp : p.Ok) : PO (putSt st p) (n + 1) := by
  have hx := h.x
  have hn := h.n
  unfold putSt
  split
  · exact ⟨hx, fun q hq => by rcases List.mem_append.1 hq with hq | hq; exact h.b q hq; simp at hq; subst hq; exact hp, h.a, by simp; omega⟩
  · split
    · exact ⟨hx, h.b, fun q hq => by rcases List.mem_append.1 hq with hq | hq; exact h.a q hq; simp at hq; subst hq; exact hp, by simp; omega⟩
    · refine ⟨?_, h.b, h.a, by simp only; omega⟩
      unfold Sp.Ok at *
      simp only
      split <;> split <;> omega
theorem putFo_po {s : List Sp} {x : Sp} (hx : x.Ok) (hs : ∀ p ∈ s, p.Ok) : ∀ k, k ≤ s.length → PO (putFo (s.take k) x) k
  | 0, _ => ⟨hx, by simp [putFo], by simp [putFo], by simp [putFo]⟩
  | k + 1, hk => by rw [putFo_succ (by omega)]; exact (putFo_po hx hs k (by omega)).step (hs _ (List.getElem_mem _))
theorem putF_ok {s : List Sp} {x : Sp} (hx : x.Ok) (hs : ∀ p ∈ s, p.Ok) : (∀ p ∈ putF s x, p.Ok) ∧ (putF s x).length ≤ s.length + 1 := by
  have h := putFo_po hx hs s.length (Nat.le_refl _)
  rw [List.take_length] at h
  refine ⟨fun p hp => ?_, ?_⟩
  · unfold putF at hp
    rcases List.mem_append.1 hp with hp | hp
    · rcases List.mem_append.1 hp with hp | hp
      · exact h.b p hp
      · simp at hp; subst hp; exact h.x
    · exact h.a p hp
  · have := h.n; simp [putF]; omega
def coverF (l : List Sp) : List Sp := l.foldl putF []
theorem coverF_succ {l : List Sp} {k : Nat} (hk : k < l.length) : coverF (l.take (k + 1)) = putF (coverF (l.take k)) l[k] := by
  unfold coverF; rw [List.take_succ_eq_append_getElem hk, List.foldl_append]; rfl
theorem coverF_ok {l : List Sp} (h : ∀ p ∈ l, p.Ok) : ∀ k, k ≤ l.length → (∀ p ∈ coverF (l.take k), p.Ok) ∧ (coverF (l.take k)).length ≤ k
  | 0, _ => ⟨by simp [coverF], by simp [coverF]⟩
  | k + 1, hk => by
    have ih := coverF_ok h k (by omega)
    rw [coverF_succ (by omega)]
    have h1 := putF_ok (h _ (List.getElem_mem (show k < l.length by omega))) ih.1
    exact ⟨h1.1, by omega⟩
theorem putF_runs {rn : List Sp} {m x : Int} (h : RO rn m) (hx : m < x) : putF rn ⟨x, x⟩ = runStep rn x := by
  have key : ∀ (ini : List Sp) (acc : List Sp), (∀ p ∈ ini, p.hi + 1 < x) → ini.foldl putSt (acc, ⟨x, x⟩, []) = (acc ++ ini, ⟨x, x⟩, []) := by
    intro ini
    induction ini with
    | nil => intro acc _; simp
    | cons p ini ih =>
      intro acc hp
      simp only [List.foldl_cons]
      rw [show putSt (acc, ⟨x, x⟩, []) p = (acc ++ [p], ⟨x, x⟩, []) by unfold putSt; rw [if_pos (hp p (List.mem_cons_self ..))]]
      rw [ih _ (fun q hq => hp q (List.mem_cons_of_mem _ hq))]
      simp
  unfold runStep
  cases hl : rn.getLast? with
  | none =>
    have := List.getLast?_eq_none_iff.1 hl
    subst this; rfl
  | some l =>
    have he := snoc_last hl
    generalize rn.dropLast = ini at he
    subst he
    have hlm := h.wf l (by simp)
    have hg := List.pairwise_append.1 h.gap
    have hini : ∀ p ∈ ini, p.hi + 1 < x := fun p hp => by have := hg.2.2 p hp l (by simp); omega
    have hfo : putFo (ini ++ [l]) ⟨x, x⟩ = putSt (ini, ⟨x, x⟩, []) l := by
      unfold putFo; rw [List.foldl_append, key ini [] hini]; rfl
    simp only
    unfold putF
    rw [hfo]
    unfold putSt
    simp only
    by_cases hq : l.hi + 1 = x
    · rw [if_neg (by omega), if_neg (by omega), if_pos hq, set_snoc, if_pos (by omega), if_neg (by omega)]; simp
    · rw [if_pos (by omega), if_neg hq]; simp
theorem cover_runs (ids : List Int) (hs : ids.Pairwise (· < ·)) : coverF (ids.map fun x => ⟨x, x⟩) = runs ids := by
  obtain ⟨b, hb⟩ : ∃ b : Int, ∀ x ∈ ids, b < x := by
    cases ids with
    | nil => exact ⟨0, by simp⟩
    | cons y ys => exact ⟨y - 1, fun x hx => by rcases List.mem_cons.1 hx with rfl | hx; omega; have := (List.pairwise_cons.1 hs).1 x hx; omega⟩
  have : ∀ k, k ≤ ids.length → coverF ((ids.map fun x => (⟨x, x⟩ : Sp)).take k) = runs (ids.take k) := by
    intro k
    induction k with
    | zero => intro _; rfl
    | succ k ih =>
      intro hk
      rw [coverF_succ (by rw [List.length_map]; omega), ih (by omega), runs_succ (by omega)]
      have hro := runs_ro ids hs b hb k (by omega)
      have hx : (if h : 0 < k ∧ k ≤ ids.length then ids[k - 1]'(by omega) else b) < ids[k] := by
        split
        · exact List.pairwise_iff_getElem.1 hs _ _ _ _ (by omega)
        · exact hb _ (List.getElem_mem _)
      have := putF_runs hro hx
      simpa using this
  have h := this ids.length (Nat.le_refl _)
  rw [List.take_length] at h
  rw [← h, List.take_of_length_le (by simp)]
def singles (xs : List Rec) : List Sp := (rids xs).map fun x => ⟨x, x⟩
theorem sp_one {x : Int} (h : 0 ≤ x ∧ x ≤ 1073741824) : (⟨x, x⟩ : Sp).Ok := by unfold Sp.Ok; simp only; omega
theorem Acks_spec {e : Env} {w : World} {rs : List Part} (b : Nat) (xs : List Rec) (hB : InIn rs b xs) (hI : Inb xs) (hT : Tot e w rs) : Spec Try.prog 35 #[.pointer (some ⟨b, 0, none⟩)] e w rs (fun v L => ∃ X, Sl encSp 65 v (runs (rids xs)) X ∧ L = [X]) := by
  refine spec_body Try.func35 rfl Try.ntmps35 rfl rfl ?_
  intro a hf
  refine wpIn_seq ?_
  -- region 0 (buffer.go:256)
  refine wp_reg ([]) ([] ++ rs) [(0, true)] mixed (by kernel_rfl) (hT) ?_; intro w hT
  refine rd hf rfl (yl_assign rfl) rfl rfl ?_; intro a hf
  refine plan_nil ?_
  refine wpIn_seq ?_
  -- region 1 (buffer.go:257)
  refine wp_reg ([]) ([] ++ rs) [(0, true)] mixed (by kernel_rfl) (hT) ?_; intro w hT
  refine rd hf rfl (yl_assign rfl) rfl rfl ?_; intro a hf
  refine plan_nil ?_
  refine wpIn_seq ?_
  refine wpIn_seq ?_
  -- region 2 (buffer.go:258)
  refine wp_reg ([]) ([] ++ rs) [(0, true), (1, false), (2, false), (3, true)] mixed (by kernel_rfl) (hT) ?_; intro w hT
  refine rd hf rfl (yl_move rfl) rfl rfl ?_; intro a hf
  refine ef_call hf rfl (wanted_none _ _ rfl) rfl rfl (by kernel_rfl) (Spec.frame (L2 := []) (Records_spec b xs hB.app hI.srt hI.len hT)) rfl (l' := [(7, _), (3, _), (2, _), (0, _)]) rfl ?_; rintro a w rv L ⟨L1, ⟨XR, hR, rfl⟩, rfl⟩ hf hT
  refine ef hf hT rfl rfl (ef_read (yl_lenE rfl Try.underlying70 (hR.els (.head _)))) rfl (l' := [(8, _), (7, _), (3, _), (2, _), (0, _)]) rfl ?_; rintro a w v L ⟨rfl, rfl⟩ hf hT
  refine rd hf rfl (yl_move rfl) rfl rfl ?_; intro a hf
  refine plan_nil ?_
  replace hf := hf.sel [10, 9, 8, 3] (l' := [(10, _), (9, _), (8, _), (3, _)]) rfl
  refine wpIn_block ?_
  replace hT := hT.emp
  have hlen := hI.len
  have hrl : (rids xs).length = xs.length := by simp [rids]
  refine wp_loopS (σ := Nat × Value) (fun (k, q) => [(10, .int .i64 (k : Nat)), (3, q)]) [(9, _), (8, _)] (fun (k, q) L => k ≤ xs.length ∧ ∃ XD, Sl encSp 65 q (runs ((rids xs).take k)) XD ∧ L = [XD]) (fun (k, q) => xs.length - k) (0, .slice none 0 0) (L := [_]) (R := [_] ++ rs) (hf.sel [10, 3, 9, 8] rfl) (⟨Nat.zero_le _, _, by simpa [runs] using sl_nil, rfl⟩) hT ?_
  clear hf hT; rintro ⟨k, q⟩ a w L hf ⟨hk, XD, hD, rfl⟩ hT
  replace hf : Fr _ [(10, .int .i64 (k : Nat)), (3, q), (9, _), (8, _)] _ _ := hf
  have hrn := runs_len ((rids xs).take k)
  have hrm := runs_mem (rids xs) ((rids xs).take k) (fun x hx => List.mem_of_mem_take hx)
  have hsuc : ∀ h : k < xs.length, runs ((rids xs).take (k + 1)) = runStep (runs ((rids xs).take k)) xs[k].id := fun h => by rw [runs_succ (by omega)]; simp [rids]
  generalize hrn0 : runs ((rids xs).take k) = rn at hD hrn hrm hsuc
  rw [List.length_take] at hrn
  refine wpIn_seq ?_
  -- region 3 (buffer.go:258)
  refine wp_reg ([]) ([_, _] ++ rs) [(0, true)] mixed (by kernel_rfl) (hT) ?_; intro w hT
  refine rd hf rfl (yl_cmp rfl rfl rfl) rfl rfl ?_; intro a hf
  refine plan_nil ?_
  refine wpIn_seq ?_
  refine wp_ifd hf rfl (fun hlt => ?_) (fun hlt => ?_)
  · -- then
    have hltk : k < xs.length := by omega
    have hj : xs[k]? = some xs[k] := List.getElem?_eq_getElem hltk
    have hok := hI.ok _ (List.getElem_mem hltk)
    unfold Rec.Ok at hok
    refine wpIn_skip ?_
    refine wpIn_seq ?_
    refine wpIn_block ?_
    refine wpIn_seq ?_
    -- region 4 (buffer.go:258)
    refine wp_reg ([]) ([_, _] ++ rs) [(0, true), (1, true), (2, false), (3, false)] mixed (by kernel_rfl) (hT) ?_; intro w hT
    refine rd hf rfl (yl_indexE rfl rfl Try.underlying70 sz_31 (hR.els (.tail _ (.head _))) (by omega) (by omega)) rfl rfl ?_; intro a hf
    refine rd hf rfl (yl_loadA Try.underlying31 rfl sz_31 rfl ((hR.els (.tail _ (.head _))).row hj) rfl) rfl rfl ?_; intro a hf
    refine ef hf hT rfl rfl (ef_alloc zr_31) rfl (l' := [(13, _), (12, _), (11, _), (10, _), (3, _), (9, _), (8, _)]) rfl ?_; rintro a w v L ⟨b1, rfl, rfl⟩ hf hT
    refine efS hf hT rfl rfl (ef_storeW rfl rfl sz_31 rfl rfl rfl) ?_; rintro w L rfl hT
    refine plan_nil ?_
    replace hf := hf.sel [5, 10, 3, 9, 8] (l' := [(5, _), (10, _), (3, _), (9, _), (8, _)]) rfl
    refine wpIn_seq ?_
    refine wpIn_seq ?_
    -- region 5 (buffer.go:259)
    refine wp_reg ([]) ([_, _, _] ++ rs) [(0, true), (1, true), (2, true)] mixed (by kernel_rfl) (hT) ?_; intro w hT
    refine rd hf rfl (yl_move rfl) rfl rfl ?_; intro a hf
    refine rd hf rfl (yl_lenE rfl Try.underlying58 (hD.els (.tail _ (.head _)))) rfl rfl ?_; intro a hf
    refine rd hf rfl (yl_assign rfl) rfl rfl ?_; intro a hf
    refine plan_nil ?_
    refine wpIn_seq ?_
    -- region 6 (buffer.go:259)
    refine wp_reg ([]) ([_, _, _] ++ rs) [(0, true), (1, true), (2, true), (3, true), (4, true), (5, true), (6, true), (7, true), (8, true), (9, true), (10, true), (11, true), (12, true), (13, true)] mixed (by kernel_rfl) (hT) ?_; intro w hT
    refine rd hf rfl (yl_move rfl) rfl rfl ?_; intro a hf
    refine rd hf rfl (yl_cmp rfl rfl rfl) rfl rfl ?_; intro a hf
    refine rd hf rfl (yl_move rfl) rfl rfl ?_; intro a hf
    by_cases hg2 : (0 : Int) < (rn.length : Nat)
    · have hgT1 : decide ((0 : Int) < (rn.length : Nat)) = true := by simpa using hg2
      have hne : rn ≠ [] := fun h => by rw [h] at hg2; simp at hg2
      obtain ⟨l, hl⟩ : ∃ l, rn.getLast? = some l := ⟨_, List.getLast?_eq_some_getLast hne⟩
      have hjl : rn[(((rn.length : Nat) : Int) - 1).toNat]? = some l := by rw [show (((rn.length : Nat) : Int) - 1).toNat = rn.length - 1 by omega, ← List.getLast?_eq_getElem?, hl]
      have hjl2 : rn[rn.length - 1]? = some l := by rw [← List.getLast?_eq_getElem?, hl]
      have hlm := (hrm l (List.mem_of_getLast? hl)).2
      obtain ⟨y, hy, hye⟩ := List.mem_map.1 hlm
      have hyo := hI.ok y hy
      unfold Rec.Ok at hyo
      refine rdT hf rfl rfl rfl rfl (by first | exact hgT1 | simp [hgT1]) (yl_move rfl) rfl (l' := [(19, _), (18, _), (17, _), (16, _), (6, _), (15, _), (14, _), (5, _), (10, _), (3, _), (9, _), (8, _)]) rfl ?_; intro a hf
      refine rdT hf rfl rfl rfl rfl (by first | exact hgT1 | simp [hgT1]) (yl_move rfl) rfl (l' := [(20, _), (19, _), (18, _), (17, _), (16, _), (6, _), (15, _), (14, _), (5, _), (10, _), (3, _), (9, _), (8, _)]) rfl ?_; intro a hf
      refine rdT hf rfl rfl rfl rfl (by first | exact hgT1 | simp [hgT1]) (yl_sub rfl rfl (by unfold inI64; omega)) rfl (l' := [(21, _), (20, _), (19, _), (18, _), (17, _), (16, _), (6, _), (15, _), (14, _), (5, _), (10, _), (3, _), (9, _), (8, _)]) rfl ?_; intro a hf
      refine rdT hf rfl rfl rfl rfl (by first | exact hgT1 | simp [hgT1]) (yl_indexE rfl rfl Try.underlying58 sz_65 (hD.els (.tail _ (.head _))) (by omega) (by omega)) rfl (l' := [(22, _), (21, _), (20, _), (19, _), (18, _), (17, _), (16, _), (6, _), (15, _), (14, _), (5, _), (10, _), (3, _), (9, _), (8, _)]) rfl ?_; intro a hf
      refine rdT hf rfl rfl rfl rfl (by first | exact hgT1 | simp [hgT1]) (yl_faddr Try.underlying65 rfl rfl sz_2 rfl) rfl (l' := [(23, _), (22, _), (21, _), (20, _), (19, _), (18, _), (17, _), (16, _), (6, _), (15, _), (14, _), (5, _), (10, _), (3, _), (9, _), (8, _)]) rfl ?_; intro a hf
      refine rdT hf rfl rfl rfl rfl (by first | exact hgT1 | simp [hgT1]) (yl_load Try.underlying2 rfl rfl ((hD.els (.tail _ (.head _))).cell hjl (f := 1) rfl)) rfl (l' := [(24, _), (23, _), (22, _), (21, _), (20, _), (19, _), (18, _), (17, _), (16, _), (6, _), (15, _), (14, _), (5, _), (10, _), (3, _), (9, _), (8, _)]) rfl ?_; intro a hf
      refine rdT hf rfl rfl rfl rfl (by first | exact hgT1 | simp [hgT1]) (yl_add rfl rfl (by unfold inI64; omega)) rfl (l' := [(25, _), (24, _), (23, _), (22, _), (21, _), (20, _), (19, _), (18, _), (17, _), (16, _), (6, _), (15, _), (14, _), (5, _), (10, _), (3, _), (9, _), (8, _)]) rfl ?_; intro a hf
      refine rdT hf rfl rfl rfl rfl (by first | exact hgT1 | simp [hgT1]) (yl_faddr Try.underlying31 rfl rfl sz_2 (k := 0) rfl) rfl (l' := [(26, _), (25, _), (24, _), (23, _), (22, _), (21, _), (20, _), (19, _), (18, _), (17, _), (16, _), (6, _), (15, _), (14, _), (5, _), (10, _), (3, _), (9, _), (8, _)]) rfl ?_; intro a hf
      refine rdT hf rfl rfl rfl rfl (by first | exact hgT1 | simp [hgT1]) (yl_load Try.underlying2 rfl rfl ⟨_, .head _, _, _, _, pt_self _ _, rfl⟩) rfl (l' := [(27, _), (26, _), (25, _), (24, _), (23, _), (22, _), (21, _), (20, _), (19, _), (18, _), (17, _), (16, _), (6, _), (15, _), (14, _), (5, _), (10, _), (3, _), (9, _), (8, _)]) rfl ?_; intro a hf
      refine rdT hf rfl rfl rfl rfl (by first | exact hgT1 | simp [hgT1]) (yl_cmp rfl rfl rfl) rfl (l' := [(28, _), (27, _), (26, _), (25, _), (24, _), (23, _), (22, _), (21, _), (20, _), (19, _), (18, _), (17, _), (16, _), (6, _), (15, _), (14, _), (5, _), (10, _), (3, _), (9, _), (8, _)]) rfl ?_; intro a hf
      refine rd hf rfl (yl_pickTT rfl hgT1 rfl) rfl rfl ?_; intro a hf
      refine plan_nil ?_
      replace hf := hf.sel [29, 6, 5, 10, 3, 9, 8] (l' := [(29, _), (6, _), (5, _), (10, _), (3, _), (9, _), (8, _)]) rfl
      refine wp_ifd hf rfl (fun hjo => ?_) (fun hjo => ?_)
      · -- then
        have hstp : runStep rn xs[k].id = rn.set (rn.length - 1) ⟨l.lo, xs[k].id⟩ := by unfold runStep; rw [hl]; simp only; rw [if_pos (show l.hi + 1 = xs[k].id by omega)]
        refine wpIn_seq ?_
        -- region 7 (buffer.go:260)
        refine wp_reg ([_]) ([_, _] ++ rs) [(0, false), (1, false), (2, false), (3, false), (4, false), (5, false), (6, false), (7, false)] mixed (by kernel_rfl) (hT.brings [1]) ?_; intro w hT
        refine ef hf hT rfl rfl (ef_read (yl_move rfl)) rfl (l' := [(29, _), (6, _), (5, _), (10, _), (3, _), (9, _), (8, _)]) rfl ?_; rintro a w v L ⟨rfl, rfl⟩ hf hT
        refine ef hf hT rfl rfl (ef_read (yl_move rfl)) rfl (l' := [(30, _), (29, _), (6, _), (5, _), (10, _), (3, _), (9, _), (8, _)]) rfl ?_; rintro a w v L ⟨rfl, rfl⟩ hf hT
        refine ef hf hT rfl rfl (ef_read (yl_sub rfl rfl (by unfold inI64; omega))) rfl (l' := [(31, _), (30, _), (29, _), (6, _), (5, _), (10, _), (3, _), (9, _), (8, _)]) rfl ?_; rintro a w v L ⟨rfl, rfl⟩ hf hT
        refine ef hf hT rfl rfl (ef_read (yl_faddr Try.underlying31 rfl rfl sz_2 (k := 0) rfl)) rfl (l' := [(32, _), (31, _), (30, _), (29, _), (6, _), (5, _), (10, _), (3, _), (9, _), (8, _)]) rfl ?_; rintro a w v L ⟨rfl, rfl⟩ hf hT
        refine ef hf hT rfl rfl (ef_read (yl_load Try.underlying2 rfl rfl ⟨_, .tail _ (.head _), _, _, _, pt_self _ _, rfl⟩)) rfl (l' := [(33, _), (32, _), (31, _), (30, _), (29, _), (6, _), (5, _), (10, _), (3, _), (9, _), (8, _)]) rfl ?_; rintro a w v L ⟨rfl, rfl⟩ hf hT
        refine ef hf hT rfl rfl (ef_read (yl_indexE rfl rfl Try.underlying58 sz_65 (hD.els (.head _)) (by omega) (by omega))) rfl (l' := [(34, _), (33, _), (32, _), (31, _), (30, _), (29, _), (6, _), (5, _), (10, _), (3, _), (9, _), (8, _)]) rfl ?_; rintro a w v L ⟨rfl, rfl⟩ hf hT
        refine ef hf hT rfl rfl (ef_read (yl_faddr Try.underlying65 rfl rfl sz_2 rfl)) rfl (l' := [(35, _), (34, _), (33, _), (32, _), (31, _), (30, _), (29, _), (6, _), (5, _), (10, _), (3, _), (9, _), (8, _)]) rfl ?_; rintro a w v L ⟨rfl, rfl⟩ hf hT
        refine efS hf hT rfl rfl (ef_storeEl (E := encSp) (j := (((rn.length : Nat) : Int) - 1).toNat) (f := 1) (a' := ⟨l.lo, xs[k].id⟩) rfl rfl sz_2 rfl hD (hjl) (by decide) rfl) ?_; rintro w L ⟨X1, hS1, rfl⟩ hT
        refine plan_nil ?_
        rw [show (((rn.length : Nat) : Int) - 1).toNat = rn.length - 1 by omega] at hS1
        replace hf := hf.sel [10, 3, 9, 8] (l' := [(10, _), (3, _), (9, _), (8, _)]) rfl
        refine wpIn_exit ?_
        refine then_exit ?_
        refine inBlock_hit ?_
        -- region 9 (buffer.go:258)
        refine wp_reg ([]) ([_, _, _] ++ rs) [(0, true), (1, true)] mixed (by kernel_rfl) (hT) ?_; intro w hT
        refine rd hf rfl (yl_add rfl rfl (by unfold inI64; omega)) rfl rfl ?_; intro a hf
        refine rw_ hf rfl (yl_move rfl) rfl (l' := [(10, _), (45, _), (3, _), (9, _), (8, _)]) rfl ?_; intro a hf
        refine plan_nil ?_
        exact ⟨(k + 1, q), _, hf.sel [10, 3, 9, 8] rfl, ⟨by omega, _, by rw [hsuc hltk, hstp]; exact hS1, rfl⟩, (hT.brings [1]).tail, by first | omega | (dsimp only; omega)⟩
      · -- else
        have hstp : runStep rn xs[k].id = rn ++ [⟨xs[k].id, xs[k].id⟩] := by unfold runStep; rw [hl]; simp only; rw [if_neg (show ¬ l.hi + 1 = xs[k].id by omega)]
        refine wpIn_skip ?_
        -- region 8 (buffer.go:263)
        refine wp_reg ([_]) ([_, _] ++ rs) [(0, true), (1, true), (2, true), (3, true), (4, true), (5, true), (6, false), (7, false), (8, true)] mixed (by kernel_rfl) (hT.brings [1]) ?_; intro w hT
        refine rd hf rfl (yl_move rfl) rfl rfl ?_; intro a hf
        refine rd hf rfl (yl_faddr Try.underlying31 rfl rfl sz_2 (k := 0) rfl) rfl rfl ?_; intro a hf
        refine rd hf rfl (yl_load Try.underlying2 rfl rfl ⟨_, .head _, _, _, _, pt_self _ _, rfl⟩) rfl rfl ?_; intro a hf
        refine rd hf rfl (yl_faddr Try.underlying31 rfl rfl sz_2 (k := 0) rfl) rfl rfl ?_; intro a hf
        refine rd hf rfl (yl_load Try.underlying2 rfl rfl ⟨_, .head _, _, _, _, pt_self _ _, rfl⟩) rfl rfl ?_; intro a hf
        refine rd hf rfl (yl_build rfl Try.underlying65 zr_65 (places := [(0, 1), (1, 1)]) (by kernel_rfl) (by kernel_rfl) (out := (Sp.mk xs[k].id xs[k].id).cells) rfl) rfl rfl ?_; intro a hf
        refine ef hf hT rfl rfl (ef_buildSlice (E := encSp) (xs := [⟨xs[k].id, xs[k].id⟩]) rfl rfl Try.underlying58 zs_65 rfl (by decide) rfl (by decide)) rfl (l' := [(42, _), (41, _), (40, _), (39, _), (38, _), (37, _), (29, _), (6, _), (5, _), (10, _), (3, _), (9, _), (8, _)]) rfl ?_; rintro a w one L ⟨b2, p1, hvp1, hp1, rfl⟩ hf hT
        replace hT : Tot _ _ ([_, _] ++ ([_, _] ++ rs)) := hT.bring 1
        refine ef hf hT rfl rfl (ef_append (E := encSp) (L := [_]) rfl rfl Try.underlying58 zb_65 rfl hD (hp1.els (.tail _ (.head _))) (by simp; omega) (by simp [maxLen]; omega)) rfl (l' := [(43, _), (42, _), (41, _), (40, _), (39, _), (38, _), (37, _), (29, _), (6, _), (5, _), (10, _), (3, _), (9, _), (8, _)]) rfl ?_; rintro a w q2 L ⟨X2, hS2, rfl⟩ hf hT
        refine rw_ hf rfl (yl_assign rfl) rfl (l' := [(3, _), (44, _), (43, _), (42, _), (41, _), (40, _), (39, _), (38, _), (37, _), (29, _), (6, _), (5, _), (10, _), (9, _), (8, _)]) rfl ?_; intro a hf
        refine plan_nil ?_
        replace hf := hf.sel [3, 10, 9, 8] (l' := [(3, _), (10, _), (9, _), (8, _)]) rfl
        -- region 9 (buffer.go:258)
        refine wp_reg ([]) ([_, _, _, _] ++ rs) [(0, true), (1, true)] mixed (by kernel_rfl) (hT) ?_; intro w hT
        refine rd hf rfl (yl_add rfl rfl (by unfold inI64; omega)) rfl rfl ?_; intro a hf
        refine rw_ hf rfl (yl_move rfl) rfl (l' := [(10, _), (45, _), (3, _), (9, _), (8, _)]) rfl ?_; intro a hf
        refine plan_nil ?_
        exact ⟨(k + 1, q2), _, hf.sel [10, 3, 9, 8] rfl, ⟨by omega, _, by rw [hsuc hltk, hstp]; exact hS2, rfl⟩, (hT.brings [2, 2]).tail.tail, by first | omega | (dsimp only; omega)⟩
    · have hgT1 : decide ((0 : Int) < (rn.length : Nat)) = false := by simpa using hg2
      have hne : rn.getLast? = none := by rw [List.getLast?_eq_none_iff]; exact List.eq_nil_of_length_eq_zero (by omega)
      have hstp : runStep rn xs[k].id = rn ++ [⟨xs[k].id, xs[k].id⟩] := by unfold runStep; rw [hne]
      refine rdF hf rfl rfl rfl rfl (by first | exact hgT1 | simp [hgT1]) rfl (l' := [(19, _), (18, _), (17, _), (16, _), (6, _), (15, _), (14, _), (5, _), (10, _), (3, _), (9, _), (8, _)]) rfl ?_; intro a hf
      refine rdF hf rfl rfl rfl rfl (by first | exact hgT1 | simp [hgT1]) rfl (l' := [(20, _), (19, _), (18, _), (17, _), (16, _), (6, _), (15, _), (14, _), (5, _), (10, _), (3, _), (9, _), (8, _)]) rfl ?_; intro a hf
      refine rdF hf rfl rfl rfl rfl (by first | exact hgT1 | simp [hgT1]) rfl (l' := [(21, _), (20, _), (19, _), (18, _), (17, _), (16, _), (6, _), (15, _), (14, _), (5, _), (10, _), (3, _), (9, _), (8, _)]) rfl ?_; intro a hf
      refine rdF hf rfl rfl rfl rfl (by first | exact hgT1 | simp [hgT1]) rfl (l' := [(22, _), (21, _), (20, _), (19, _), (18, _), (17, _), (16, _), (6, _), (15, _), (14, _), (5, _), (10, _), (3, _), (9, _), (8, _)]) rfl ?_; intro a hf
      refine rdF hf rfl rfl rfl rfl (by first | exact hgT1 | simp [hgT1]) rfl (l' := [(23, _), (22, _), (21, _), (20, _), (19, _), (18, _), (17, _), (16, _), (6, _), (15, _), (14, _), (5, _), (10, _), (3, _), (9, _), (8, _)]) rfl ?_; intro a hf
      refine rdF hf rfl rfl rfl rfl (by first | exact hgT1 | simp [hgT1]) rfl (l' := [(24, _), (23, _), (22, _), (21, _), (20, _), (19, _), (18, _), (17, _), (16, _), (6, _), (15, _), (14, _), (5, _), (10, _), (3, _), (9, _), (8, _)]) rfl ?_; intro a hf
      refine rdF hf rfl rfl rfl rfl (by first | exact hgT1 | simp [hgT1]) rfl (l' := [(25, _), (24, _), (23, _), (22, _), (21, _), (20, _), (19, _), (18, _), (17, _), (16, _), (6, _), (15, _), (14, _), (5, _), (10, _), (3, _), (9, _), (8, _)]) rfl ?_; intro a hf
      refine rdF hf rfl rfl rfl rfl (by first | exact hgT1 | simp [hgT1]) rfl (l' := [(26, _), (25, _), (24, _), (23, _), (22, _), (21, _), (20, _), (19, _), (18, _), (17, _), (16, _), (6, _), (15, _), (14, _), (5, _), (10, _), (3, _), (9, _), (8, _)]) rfl ?_; intro a hf
      refine rdF hf rfl rfl rfl rfl (by first | exact hgT1 | simp [hgT1]) rfl (l' := [(27, _), (26, _), (25, _), (24, _), (23, _), (22, _), (21, _), (20, _), (19, _), (18, _), (17, _), (16, _), (6, _), (15, _), (14, _), (5, _), (10, _), (3, _), (9, _), (8, _)]) rfl ?_; intro a hf
      refine rdF hf rfl rfl rfl rfl (by first | exact hgT1 | simp [hgT1]) rfl (l' := [(28, _), (27, _), (26, _), (25, _), (24, _), (23, _), (22, _), (21, _), (20, _), (19, _), (18, _), (17, _), (16, _), (6, _), (15, _), (14, _), (5, _), (10, _), (3, _), (9, _), (8, _)]) rfl ?_; intro a hf
      refine rd hf rfl (yl_pickFF rfl hgT1 rfl) rfl rfl ?_; intro a hf
      refine plan_nil ?_
      replace hf := hf.sel [29, 6, 5, 10, 3, 9, 8] (l' := [(29, _), (6, _), (5, _), (10, _), (3, _), (9, _), (8, _)]) rfl
      refine wp_ifFF hf rfl (rfl) ?_
      refine wpIn_skip ?_
      -- region 8 (buffer.go:263)
      refine wp_reg ([_]) ([_, _] ++ rs) [(0, true), (1, true), (2, true), (3, true), (4, true), (5, true), (6, false), (7, false), (8, true)] mixed (by kernel_rfl) (hT.brings [1]) ?_; intro w hT
      refine rd hf rfl (yl_move rfl) rfl rfl ?_; intro a hf
      refine rd hf rfl (yl_faddr Try.underlying31 rfl rfl sz_2 (k := 0) rfl) rfl rfl ?_; intro a hf
      refine rd hf rfl (yl_load Try.underlying2 rfl rfl ⟨_, .head _, _, _, _, pt_self _ _, rfl⟩) rfl rfl ?_; intro a hf
      refine rd hf rfl (yl_faddr Try.underlying31 rfl rfl sz_2 (k := 0) rfl) rfl rfl ?_; intro a hf
      refine rd hf rfl (yl_load Try.underlying2 rfl rfl ⟨_, .head _, _, _, _, pt_self _ _, rfl⟩) rfl rfl ?_; intro a hf
      refine rd hf rfl (yl_build rfl Try.underlying65 zr_65 (places := [(0, 1), (1, 1)]) (by kernel_rfl) (by kernel_rfl) (out := (Sp.mk xs[k].id xs[k].id).cells) rfl) rfl rfl ?_; intro a hf
      refine ef hf hT rfl rfl (ef_buildSlice (E := encSp) (xs := [⟨xs[k].id, xs[k].id⟩]) rfl rfl Try.underlying58 zs_65 rfl (by decide) rfl (by decide)) rfl (l' := [(42, _), (41, _), (40, _), (39, _), (38, _), (37, _), (29, _), (6, _), (5, _), (10, _), (3, _), (9, _), (8, _)]) rfl ?_; rintro a w one L ⟨b3, p2, hvp2, hp2, rfl⟩ hf hT
      replace hT : Tot _ _ ([_, _] ++ ([_, _] ++ rs)) := hT.bring 1
      refine ef hf hT rfl rfl (ef_append (E := encSp) (L := [_]) rfl rfl Try.underlying58 zb_65 rfl hD (hp2.els (.tail _ (.head _))) (by simp; omega) (by simp [maxLen]; omega)) rfl (l' := [(43, _), (42, _), (41, _), (40, _), (39, _), (38, _), (37, _), (29, _), (6, _), (5, _), (10, _), (3, _), (9, _), (8, _)]) rfl ?_; rintro a w q2 L ⟨X3, hS3, rfl⟩ hf hT
      refine rw_ hf rfl (yl_assign rfl) rfl (l' := [(3, _), (44, _), (43, _), (42, _), (41, _), (40, _), (39, _), (38, _), (37, _), (29, _), (6, _), (5, _), (10, _), (9, _), (8, _)]) rfl ?_; intro a hf
      refine plan_nil ?_
      replace hf := hf.sel [3, 10, 9, 8] (l' := [(3, _), (10, _), (9, _), (8, _)]) rfl
      -- region 9 (buffer.go:258)
      refine wp_reg ([]) ([_, _, _, _] ++ rs) [(0, true), (1, true)] mixed (by kernel_rfl) (hT) ?_; intro w hT
      refine rd hf rfl (yl_add rfl rfl (by unfold inI64; omega)) rfl rfl ?_; intro a hf
      refine rw_ hf rfl (yl_move rfl) rfl (l' := [(10, _), (45, _), (3, _), (9, _), (8, _)]) rfl ?_; intro a hf
      refine plan_nil ?_
      exact ⟨(k + 1, q2), _, hf.sel [10, 3, 9, 8] rfl, ⟨by omega, _, by rw [hsuc hltk, hstp]; exact hS3, rfl⟩, (hT.brings [2, 2]).tail.tail, by first | omega | (dsimp only; omega)⟩
  · -- else
    obtain rfl : k = xs.length := by omega
    refine wpIn_exit ?_
    refine then_exit ?_
    refine then_exit ?_
    refine inBlock_hit ?_
    refine wpIn_seq ?_
    -- region 10 (buffer.go:265)
    refine wp_reg ([]) ([_, _] ++ rs) [(0, true), (1, true)] mixed (by kernel_rfl) (hT) ?_; intro w hT
    refine rd hf rfl (yl_move rfl) rfl rfl ?_; intro a hf
    refine rd hf rfl (yl_assign rfl) rfl rfl ?_; intro a hf
    refine plan_nil ?_
    replace hf := hf.sel [2] (l' := [(2, _)]) rfl
    refine wpIn_ret ?_
    exact body_ret hf (L := [_]) ((hT.brings [1]).tail) rfl rfl ⟨XD, by rw [show runs (rids xs) = rn from by rw [← hrn0, List.take_of_length_le (by omega)]]; exact hD, rfl⟩
theorem put_spec {e : Env} {w : World} {rs : List Part} (S : List Sp) (v0 : Value) (hE : Els encSp rs v0 S) (hS : ∀ p ∈ S, p.Ok) (hlen : S.length ≤ 1000) (x : Sp) (hx : x.Ok) (hT : Tot e w rs) : Spec Try.prog 98 #[v0, encS x] e w rs (fun v L => ∃ X, Sl encSp 65 v (putF S x) X ∧ L = [X]) := by
  refine spec_body Try.func98 rfl Try.ntmps98 rfl rfl ?_
  intro a hf
  refine wpIn_seq ?_
  -- region 0 (ref.go:268)
  refine wp_reg ([]) ([] ++ rs) [(0, false), (1, true)] mixed (by kernel_rfl) (hT) ?_; intro w hT
  refine ef hf hT rfl rfl (ef_box rfl) rfl (l' := [(0, _), (1, _)]) rfl ?_; rintro a w v L ⟨b1, rfl, rfl⟩ hf hT
  refine rd hf rfl (yl_assign rfl) rfl rfl ?_; intro a hf
  refine plan_nil ?_
  refine wpIn_seq ?_
  -- region 1 (ref.go:269)
  refine wp_reg ([]) ([_] ++ rs) [(0, true), (1, true)] mixed (by kernel_rfl) (hT) ?_; intro w hT
  refine rd hf rfl (yl_assign rfl) rfl rfl ?_; intro a hf
  refine rd hf rfl (yl_assign rfl) rfl rfl ?_; intro a hf
  refine plan_nil ?_
  refine wpIn_seq ?_
  refine wpIn_seq ?_
  -- region 2 (ref.go:270)
  refine wp_reg ([]) ([_] ++ rs) [(0, true)] mixed (by kernel_rfl) (hT) ?_; intro w hT
  refine rd hf rfl (yl_assign rfl) rfl rfl ?_; intro a hf
  refine plan_nil ?_
  refine wpIn_block ?_
  replace hT := hT.emp.emp
  replace hT := hT.bring 2
  replace hT := hT.bring 2
  replace hT := hT.bring 2
  refine wp_loopS (σ := Nat × Value × Value) (fun (k, q1, q2) => [(7, .int .i64 (k : Nat)), (5, q1), (6, q2)]) [(3, _), (0, _)] (fun (k, q1, q2) L => k ≤ S.length ∧ ∃ X1 X2, Sl encSp 65 q1 (putFo (S.take k) x).1 X1 ∧ Sl encSp 65 q2 (putFo (S.take k) x).2.2 X2 ∧ L = [X1, X2, pt b1 (.cells (putFo (S.take k) x).2.1.cells.toArray 65)]) (fun (k, q1, q2) => S.length - k) (0, .slice none 0 0, .slice none 0 0) (L := [_, _, _]) (R := [] ++ rs) (hf.sel [7, 5, 6, 3, 0] rfl) (⟨Nat.zero_le _, _, _, by simpa [putFo] using sl_nil, by simpa [putFo] using sl_nil, rfl⟩) hT ?_
  clear hf hT; rintro ⟨k, q1, q2⟩ a w L hf ⟨hk, X1, X2, hD1, hD2, rfl⟩ hT
  replace hf : Fr _ [(7, .int .i64 (k : Nat)), (5, q1), (6, q2), (3, _), (0, _)] _ _ := hf
  have hpo := putFo_po hx hS k hk
  have hsuc := putFo_succ (s := S) (x := x) (k := k)
  generalize hst0 : putFo (S.take k) x = st at hD1 hD2 hT hpo hsuc
  have hsx := hpo.x
  unfold Sp.Ok at hsx
  have hsn := hpo.n
  refine wpIn_seq ?_
  refine wpIn_seq ?_
  -- region 3 (ref.go:270)
  refine wp_reg ([]) ([_, _, _] ++ rs) [(0, true), (1, true), (2, true), (3, true)] mixed (by kernel_rfl) (hT) ?_; intro w hT
  refine rd hf rfl (yl_move rfl) rfl rfl ?_; intro a hf
  refine rd hf rfl (yl_move rfl) rfl rfl ?_; intro a hf
  refine rd hf rfl (yl_lenE rfl Try.underlying58 hE.app) rfl rfl ?_; intro a hf
  refine rd hf rfl (yl_cmp rfl rfl rfl) rfl rfl ?_; intro a hf
  refine plan_nil ?_
  replace hf := hf.sel [11, 7, 5, 6, 3, 0] (l' := [(11, _), (7, _), (5, _), (6, _), (3, _), (0, _)]) rfl
  refine wp_ifd hf rfl (fun hlt => ?_) (fun hlt => ?_)
  · -- then
    have hltk : k < S.length := by omega
    have hj : S[k]? = some S[k] := List.getElem?_eq_getElem hltk
    have hok := hS _ (List.getElem_mem hltk)
    unfold Sp.Ok at hok
    refine wpIn_skip ?_
    refine wpIn_seq ?_
    refine wpIn_block ?_
    refine wpIn_block ?_
    refine wpIn_seq ?_
    -- region 6 (ref.go:272)
    refine wp_reg ([]) ([_, _, _] ++ rs) [(0, true), (1, true), (2, true), (3, true), (4, true), (5, true), (6, true), (7, true), (8, true), (9, true)] mixed (by kernel_rfl) (hT) ?_; intro w hT
    refine rd hf rfl (yl_move rfl) rfl rfl ?_; intro a hf
    refine rd hf rfl (yl_move rfl) rfl rfl ?_; intro a hf
    refine rd hf rfl (yl_indexE rfl rfl Try.underlying58 sz_65 hE.app (by omega) (by omega)) rfl rfl ?_; intro a hf
    refine rd hf rfl (yl_faddr Try.underlying65 rfl rfl sz_2 rfl) rfl rfl ?_; intro a hf
    refine rd hf rfl (yl_load Try.underlying2 rfl rfl (hE.app.cell hj (f := 1) rfl)) rfl rfl ?_; intro a hf
    refine rd hf rfl (yl_add rfl rfl (by unfold inI64; omega)) rfl rfl ?_; intro a hf
    refine rd hf rfl (yl_faddr Try.underlying65 rfl rfl sz_2 (k := 0) rfl) rfl rfl ?_; intro a hf
    refine rd hf rfl (yl_load Try.underlying2 rfl rfl ⟨_, .tail _ (.tail _ (.head _)), _, _, _, pt_self _ _, rfl⟩) rfl rfl ?_; intro a hf
    refine rd hf rfl (yl_cmp rfl rfl rfl) rfl rfl ?_; intro a hf
    refine rd hf rfl (yl_assign rfl) rfl rfl ?_; intro a hf
    refine plan_nil ?_
    replace hf := hf.sel [31, 7, 5, 6, 3, 0] (l' := [(31, _), (7, _), (5, _), (6, _), (3, _), (0, _)]) rfl
    refine wp_ifd hf rfl (fun hc1 => ?_) (fun hc1 => ?_)
    · -- then
      -- region 7 (ref.go:273)
      refine wp_reg ([_]) ([_, _] ++ rs) [(0, true), (1, true), (2, true), (3, true), (4, true), (5, false), (6, false), (7, true)] mixed (by kernel_rfl) (hT.brings [0]) ?_; intro w hT
      refine rd hf rfl (yl_move rfl) rfl rfl ?_; intro a hf
      refine rd hf rfl (yl_move rfl) rfl rfl ?_; intro a hf
      refine rd hf rfl (yl_move rfl) rfl rfl ?_; intro a hf
      refine rd hf rfl (yl_indexE rfl rfl Try.underlying58 sz_65 hE.app (by omega) (by omega)) rfl rfl ?_; intro a hf
      refine rd hf rfl (yl_loadA Try.underlying65 rfl sz_65 rfl (hE.app.row hj) rfl) rfl rfl ?_; intro a hf
      refine ef hf hT rfl rfl (ef_buildSlice (E := encSp) (xs := [S[k]]) rfl rfl Try.underlying58 zs_65 rfl (by decide) rfl (by decide)) rfl (l' := [(45, _), (44, _), (43, _), (42, _), (41, _), (31, _), (7, _), (5, _), (6, _), (3, _), (0, _)]) rfl ?_; rintro a w one L ⟨b2, p1, hvp1, hp1, rfl⟩ hf hT
      replace hT : Tot _ _ ([_, _] ++ ([_, _] ++ rs)) := hT.bring 1
      refine ef hf hT rfl rfl (ef_append (E := encSp) (L := [_]) rfl rfl Try.underlying58 zb_65 rfl hD1 (hp1.els (.tail _ (.head _))) (by simp; omega) (by simp [maxLen]; omega)) rfl (l' := [(46, _), (45, _), (44, _), (43, _), (42, _), (41, _), (31, _), (7, _), (5, _), (6, _), (3, _), (0, _)]) rfl ?_; rintro a w q1n L ⟨X1, hS1, rfl⟩ hf hT
      refine rw_ hf rfl (yl_assign rfl) rfl (l' := [(5, _), (47, _), (46, _), (45, _), (44, _), (43, _), (42, _), (41, _), (31, _), (7, _), (6, _), (3, _), (0, _)]) rfl ?_; intro a hf
      refine plan_nil ?_
      replace hf := hf.sel [5, 7, 6, 3, 0] (l' := [(5, _), (7, _), (6, _), (3, _), (0, _)]) rfl
      -- region 4 (ref.go:270)
      refine wp_reg ([]) ([_, _, _, _] ++ rs) [(0, true), (1, true), (2, true)] mixed (by kernel_rfl) (hT) ?_; intro w hT
      refine rd hf rfl (yl_move rfl) rfl rfl ?_; intro a hf
      refine rd hf rfl (yl_add rfl rfl (by unfold inI64; omega)) rfl rfl ?_; intro a hf
      refine rw_ hf rfl (yl_assign rfl) rfl (l' := [(7, _), (13, _), (12, _), (5, _), (6, _), (3, _), (0, _)]) rfl ?_; intro a hf
      refine plan_nil ?_
      have hst := hsuc hltk
      rw [show putSt st S[k] = _ from by unfold putSt; rw [if_pos hc1]] at hst
      exact ⟨(k + 1, q1n, q2), _, hf.sel [7, 5, 6, 3, 0] rfl, ⟨by omega, _, _, by rw [hst]; exact hS1, by rw [hst]; exact hD2, by rw [hst]⟩, (hT.brings [1]).tail, by first | omega | (dsimp only; omega)⟩
    · -- else
      refine wpIn_seq ?_
      -- region 8 (ref.go:274)
      refine wp_reg ([]) ([_, _, _] ++ rs) [(0, true), (1, true), (2, true), (3, true), (4, true), (5, true), (6, true), (7, true), (8, true), (9, true)] mixed (by kernel_rfl) (hT) ?_; intro w hT
      refine rd hf rfl (yl_move rfl) rfl rfl ?_; intro a hf
      refine rd hf rfl (yl_move rfl) rfl rfl ?_; intro a hf
      refine rd hf rfl (yl_indexE rfl rfl Try.underlying58 sz_65 hE.app (by omega) (by omega)) rfl rfl ?_; intro a hf
      refine rd hf rfl (yl_faddr Try.underlying65 rfl rfl sz_2 rfl) rfl rfl ?_; intro a hf
      refine rd hf rfl (yl_load Try.underlying2 rfl rfl (hE.app.cell hj (f := 0) rfl)) rfl rfl ?_; intro a hf
      refine rd hf rfl (yl_faddr Try.underlying65 rfl rfl sz_2 (k := 1) rfl) rfl rfl ?_; intro a hf
      refine rd hf rfl (yl_load Try.underlying2 rfl rfl ⟨_, .tail _ (.tail _ (.head _)), _, _, _, pt_self _ _, rfl⟩) rfl rfl ?_; intro a hf
      refine rd hf rfl (yl_add rfl rfl (by unfold inI64; omega)) rfl rfl ?_; intro a hf
      refine rd hf rfl (yl_cmp rfl rfl rfl) rfl rfl ?_; intro a hf
      refine rd hf rfl (yl_assign rfl) rfl rfl ?_; intro a hf
      refine plan_nil ?_
      replace hf := hf.sel [48, 7, 5, 6, 3, 0] (l' := [(48, _), (7, _), (5, _), (6, _), (3, _), (0, _)]) rfl
      refine wp_ifd hf rfl (fun hc2 => ?_) (fun hc2 => ?_)
      · -- then
        -- region 9 (ref.go:275)
        refine wp_reg ([_]) ([_, _] ++ rs) [(0, true), (1, true), (2, true), (3, true), (4, true), (5, false), (6, false), (7, true)] mixed (by kernel_rfl) (hT.brings [1]) ?_; intro w hT
        refine rd hf rfl (yl_move rfl) rfl rfl ?_; intro a hf
        refine rd hf rfl (yl_move rfl) rfl rfl ?_; intro a hf
        refine rd hf rfl (yl_move rfl) rfl rfl ?_; intro a hf
        refine rd hf rfl (yl_indexE rfl rfl Try.underlying58 sz_65 hE.app (by omega) (by omega)) rfl rfl ?_; intro a hf
        refine rd hf rfl (yl_loadA Try.underlying65 rfl sz_65 rfl (hE.app.row hj) rfl) rfl rfl ?_; intro a hf
        refine ef hf hT rfl rfl (ef_buildSlice (E := encSp) (xs := [S[k]]) rfl rfl Try.underlying58 zs_65 rfl (by decide) rfl (by decide)) rfl (l' := [(62, _), (61, _), (60, _), (59, _), (58, _), (48, _), (7, _), (5, _), (6, _), (3, _), (0, _)]) rfl ?_; rintro a w one L ⟨b3, p2, hvp2, hp2, rfl⟩ hf hT
        replace hT : Tot _ _ ([_, _] ++ ([_, _] ++ rs)) := hT.bring 1
        refine ef hf hT rfl rfl (ef_append (E := encSp) (L := [_]) rfl rfl Try.underlying58 zb_65 rfl hD2 (hp2.els (.tail _ (.head _))) (by simp; omega) (by simp [maxLen]; omega)) rfl (l' := [(63, _), (62, _), (61, _), (60, _), (59, _), (58, _), (48, _), (7, _), (5, _), (6, _), (3, _), (0, _)]) rfl ?_; rintro a w q2n L ⟨X2, hS2, rfl⟩ hf hT
        refine rw_ hf rfl (yl_assign rfl) rfl (l' := [(6, _), (64, _), (63, _), (62, _), (61, _), (60, _), (59, _), (58, _), (48, _), (7, _), (5, _), (3, _), (0, _)]) rfl ?_; intro a hf
        refine plan_nil ?_
        replace hf := hf.sel [6, 7, 5, 3, 0] (l' := [(6, _), (7, _), (5, _), (3, _), (0, _)]) rfl
        -- region 4 (ref.go:270)
        refine wp_reg ([]) ([_, _, _, _] ++ rs) [(0, true), (1, true), (2, true)] mixed (by kernel_rfl) (hT) ?_; intro w hT
        refine rd hf rfl (yl_move rfl) rfl rfl ?_; intro a hf
        refine rd hf rfl (yl_add rfl rfl (by unfold inI64; omega)) rfl rfl ?_; intro a hf
        refine rw_ hf rfl (yl_assign rfl) rfl (l' := [(7, _), (13, _), (12, _), (6, _), (5, _), (3, _), (0, _)]) rfl ?_; intro a hf
        refine plan_nil ?_
        have hst := hsuc hltk
        rw [show putSt st S[k] = _ from by unfold putSt; rw [if_neg hc1, if_pos hc2]] at hst
        exact ⟨(k + 1, q1, q2n), _, hf.sel [7, 5, 6, 3, 0] rfl, ⟨by omega, _, _, by rw [hst]; exact hD1, by rw [hst]; exact hS2, by rw [hst]⟩, ((hT.brings [1]).tail.brings [2, 1, 2]), by first | omega | (dsimp only; omega)⟩
      · -- else
        -- region 5 (ref.go:277)
        refine wp_reg ([]) ([_, _, _] ++ rs) [(0, true), (1, true), (2, true), (3, true), (4, true), (5, true), (6, true), (7, true), (8, true), (9, true), (10, true), (11, true), (12, true), (13, true), (14, true), (15, true), (16, true), (17, false)] mixed (by kernel_rfl) (hT) ?_; intro w hT
        refine rd hf rfl (yl_faddr Try.underlying65 rfl rfl sz_2 (k := 0) rfl) rfl rfl ?_; intro a hf
        refine rd hf rfl (yl_load Try.underlying2 rfl rfl ⟨_, .tail _ (.tail _ (.head _)), _, _, _, pt_self _ _, rfl⟩) rfl rfl ?_; intro a hf
        refine rd hf rfl (yl_move rfl) rfl rfl ?_; intro a hf
        refine rd hf rfl (yl_move rfl) rfl rfl ?_; intro a hf
        refine rd hf rfl (yl_indexE rfl rfl Try.underlying58 sz_65 hE.app (by omega) (by omega)) rfl rfl ?_; intro a hf
        refine rd hf rfl (yl_faddr Try.underlying65 rfl rfl sz_2 rfl) rfl rfl ?_; intro a hf
        refine rd hf rfl (yl_load Try.underlying2 rfl rfl (hE.app.cell hj (f := 0) rfl)) rfl rfl ?_; intro a hf
        refine rd hf rfl (yl_minmax rfl rfl rfl) rfl rfl ?_; intro a hf
        refine rd hf rfl (yl_faddr Try.underlying65 rfl rfl sz_2 (k := 1) rfl) rfl rfl ?_; intro a hf
        refine rd hf rfl (yl_load Try.underlying2 rfl rfl ⟨_, .tail _ (.tail _ (.head _)), _, _, _, pt_self _ _, rfl⟩) rfl rfl ?_; intro a hf
        refine rd hf rfl (yl_move rfl) rfl rfl ?_; intro a hf
        refine rd hf rfl (yl_move rfl) rfl rfl ?_; intro a hf
        refine rd hf rfl (yl_indexE rfl rfl Try.underlying58 sz_65 hE.app (by omega) (by omega)) rfl rfl ?_; intro a hf
        refine rd hf rfl (yl_faddr Try.underlying65 rfl rfl sz_2 rfl) rfl rfl ?_; intro a hf
        refine rd hf rfl (yl_load Try.underlying2 rfl rfl (hE.app.cell hj (f := 1) rfl)) rfl rfl ?_; intro a hf
        refine rd hf rfl (yl_minmax rfl rfl rfl) rfl rfl ?_; intro a hf
        refine rd hf rfl (yl_build rfl Try.underlying65 zr_65 (places := [(0, 1), (1, 1)]) (by kernel_rfl) (by kernel_rfl) (out := (Sp.mk (if S[k].lo < st.2.1.lo then S[k].lo else st.2.1.lo) (if st.2.1.hi < S[k].hi then S[k].hi else st.2.1.hi)).cells) rfl) rfl rfl ?_; intro a hf
        replace hT : Tot _ _ ([_] ++ ([_, _] ++ rs)) := hT.bring 2
        refine efS_last hf hT rfl rfl (by kernel_rfl) (ef_storeW rfl rfl sz_65 rfl rfl rfl) ?_; rintro w L rfl hT
        replace hf := hf.sel [7, 5, 6, 3, 0] (l' := [(7, _), (5, _), (6, _), (3, _), (0, _)]) rfl
        -- region 4 (ref.go:270)
        refine wp_reg ([]) ([_, _, _] ++ rs) [(0, true), (1, true), (2, true)] mixed (by kernel_rfl) (hT) ?_; intro w hT
        refine rd hf rfl (yl_move rfl) rfl rfl ?_; intro a hf
        refine rd hf rfl (yl_add rfl rfl (by unfold inI64; omega)) rfl rfl ?_; intro a hf
        refine rw_ hf rfl (yl_assign rfl) rfl (l' := [(7, _), (13, _), (12, _), (5, _), (6, _), (3, _), (0, _)]) rfl ?_; intro a hf
        refine plan_nil ?_
        have hst := hsuc hltk
        rw [show putSt st S[k] = _ from by unfold putSt; rw [if_neg hc1, if_neg hc2]] at hst
        exact ⟨(k + 1, q1, q2), _, hf.sel [7, 5, 6, 3, 0] rfl, ⟨by omega, _, _, by rw [hst]; exact hD1, by rw [hst]; exact hD2, by rw [hst]⟩, (hT.brings [0, 2, 2]), by first | omega | (dsimp only; omega)⟩
  · -- else
    obtain rfl : k = S.length := by omega
    refine wpIn_exit ?_
    refine then_exit ?_
    refine then_exit ?_
    refine inBlock_hit ?_
    refine wpIn_seq ?_
    -- region 10 (ref.go:280)
    refine wp_reg ([_]) ([_, _] ++ rs) [(0, true), (1, true), (2, false), (3, false), (4, true), (5, false), (6, true)] mixed (by kernel_rfl) (hT.brings [0]) ?_; intro w hT
    refine rd hf rfl (yl_move rfl) rfl rfl ?_; intro a hf
    refine rd hf rfl (yl_loadB Try.underlying65 rfl sz_65 (vs := st.2.1.cells) (.tail _ (.head _)) rfl (pt_self _ _) rfl rfl) rfl rfl ?_; intro a hf
    refine ef hf hT rfl rfl (ef_buildSlice (E := encSp) (xs := [st.2.1]) rfl rfl Try.underlying58 zs_65 rfl (by decide) rfl (by decide)) rfl (l' := [(66, _), (65, _), (11, _), (7, _), (5, _), (6, _), (3, _), (0, _)]) rfl ?_; rintro a w one L ⟨b4, p3, hvp3, hp3, rfl⟩ hf hT
    replace hT : Tot _ _ ([_, _] ++ ([_, _] ++ rs)) := hT.bring 1
    refine ef hf hT rfl rfl (ef_append (E := encSp) (L := [_]) rfl rfl Try.underlying58 zb_65 rfl hD1 (hp3.els (.tail _ (.head _))) (by simp; omega) (by simp [maxLen]; omega)) rfl (l' := [(67, _), (66, _), (65, _), (11, _), (7, _), (5, _), (6, _), (3, _), (0, _)]) rfl ?_; rintro a w q3 L ⟨X3, hS3, rfl⟩ hf hT
    refine rd hf rfl (yl_move rfl) rfl rfl ?_; intro a hf
    refine ef hf hT rfl rfl (ef_append (E := encSp) (L := [_]) rfl rfl Try.underlying58 zb_65 rfl hS3 (hD2.els (.tail _ (.tail _ (.head _)))) (by simp; omega) (by simp [maxLen]; omega)) rfl (l' := [(69, _), (68, _), (67, _), (66, _), (65, _), (11, _), (7, _), (5, _), (6, _), (3, _), (0, _)]) rfl ?_; rintro a w q4 L ⟨X4, hS4, rfl⟩ hf hT
    refine rd hf rfl (yl_assign rfl) rfl rfl ?_; intro a hf
    refine plan_nil ?_
    replace hf := hf.sel [4] (l' := [(4, _)]) rfl
    refine wpIn_ret ?_
    exact body_ret hf (L := [_]) ((hT.brings [3, 3, 3]).tail.tail.tail) rfl rfl ⟨_, by unfold putF; rw [show putFo S x = st from by rw [← hst0, List.take_length]]; exact hS4, rfl⟩
theorem rCover_spec {e : Env} {w : World} {rs : List Part} (S : List Sp) (v0 : Value) (hE : Els encSp rs v0 S) (hS : ∀ p ∈ S, p.Ok) (hlen : S.length ≤ 256) (hT : Tot e w rs) : Spec Try.prog 70 #[v0] e w rs (fun v L => ∃ q X, v = .tuple #[q, .int .i64 0] ∧ Sl encSp 65 q (coverF S) X ∧ L = [X]) := by
  refine spec_body Try.func70 rfl Try.ntmps70 rfl rfl ?_
  intro a hf
  refine wpIn_seq ?_
  -- region 0 (ref.go:284)
  refine wp_reg ([]) ([] ++ rs) [(0, true), (1, true)] mixed (by kernel_rfl) (hT) ?_; intro w hT
  refine rd hf rfl (yl_assign rfl) rfl rfl ?_; intro a hf
  refine rd hf rfl (yl_assign rfl) rfl rfl ?_; intro a hf
  refine plan_nil ?_
  refine wpIn_seq ?_
  refine wpIn_seq ?_
  -- region 1 (ref.go:285)
  refine wp_reg ([]) ([] ++ rs) [(0, true), (1, true), (2, true)] mixed (by kernel_rfl) (hT) ?_; intro w hT
  refine rd hf rfl (yl_move rfl) rfl rfl ?_; intro a hf
  refine rd hf rfl (yl_lenE rfl Try.underlying58 hE.app) rfl rfl ?_; intro a hf
  refine rd hf rfl (yl_cmp rfl rfl rfl) rfl rfl ?_; intro a hf
  refine plan_nil ?_
  replace hf := hf.sel [9, 0] (l' := [(9, _), (0, _)]) rfl
  refine wp_ifd hf rfl (fun hmany => ?_) (fun hmany => ?_)
  · -- then
    omega
  · -- else
    refine wpIn_skip ?_
    refine wpIn_seq ?_
    -- region 3 (ref.go:288)
    refine wp_reg ([]) ([] ++ rs) [(0, true)] mixed (by kernel_rfl) (hT) ?_; intro w hT
    refine rd hf rfl (yl_assign rfl) rfl rfl ?_; intro a hf
    refine plan_nil ?_
    refine wpIn_seq ?_
    refine wpIn_seq ?_
    -- region 4 (ref.go:289)
    refine wp_reg ([]) ([] ++ rs) [(0, true)] mixed (by kernel_rfl) (hT) ?_; intro w hT
    refine rd hf rfl (yl_assign rfl) rfl rfl ?_; intro a hf
    refine plan_nil ?_
    refine wpIn_block ?_
    refine wp_loopS (σ := Nat) (fun k => [(5, .int .i64 (k : Nat))]) [(4, _), (0, _)] (fun k L => L = [] ∧ k ≤ S.length) (fun k => S.length - k) 0 (L := []) (R := [] ++ rs) (hf.sel [5, 4, 0] rfl) (⟨rfl, Nat.zero_le _⟩) hT ?_
    clear hf hT; rintro k a w L hf ⟨rfl, hk⟩ hT
    replace hf : Fr _ [(5, .int .i64 (k : Nat)), (4, _), (0, _)] _ _ := hf
    refine wpIn_seq ?_
    refine wpIn_seq ?_
    -- region 5 (ref.go:289)
    refine wp_reg ([]) ([] ++ rs) [(0, true), (1, true), (2, true), (3, true)] mixed (by kernel_rfl) (hT) ?_; intro w hT
    refine rd hf rfl (yl_move rfl) rfl rfl ?_; intro a hf
    refine rd hf rfl (yl_move rfl) rfl rfl ?_; intro a hf
    refine rd hf rfl (yl_lenE rfl Try.underlying58 hE.app) rfl rfl ?_; intro a hf
    refine rd hf rfl (yl_cmp rfl rfl rfl) rfl rfl ?_; intro a hf
    refine plan_nil ?_
    replace hf := hf.sel [13, 5, 4, 0] (l' := [(13, _), (5, _), (4, _), (0, _)]) rfl
    refine wp_ifd hf rfl (fun hlt => ?_) (fun hlt => ?_)
    · -- then
      have hltk : k < S.length := by omega
      have hj : S[k]? = some S[k] := List.getElem?_eq_getElem hltk
      have hok := hS _ (List.getElem_mem hltk)
      refine wpIn_skip ?_
      refine wpIn_seq ?_
      refine wpIn_block ?_
      refine wpIn_seq ?_
      -- region 7 (ref.go:290)
      refine wp_reg ([]) ([] ++ rs) [(0, true), (1, true), (2, true), (3, true), (4, false), (5, true)] mixed (by kernel_rfl) (hT) ?_; intro w hT
      refine rd hf rfl (yl_move rfl) rfl rfl ?_; intro a hf
      refine rd hf rfl (yl_move rfl) rfl rfl ?_; intro a hf
      refine rd hf rfl (yl_indexE rfl rfl Try.underlying58 sz_65 hE.app (by omega) (by omega)) rfl rfl ?_; intro a hf
      refine rd hf rfl (yl_loadA Try.underlying65 rfl sz_65 rfl (hE.app.row hj) rfl) rfl rfl ?_; intro a hf
      refine ef_call hf rfl (wanted_none _ _ rfl) rfl rfl (by kernel_rfl) (Spec.frame (L2 := []) (rValid_spec S[k] hT)) rfl (l' := [(19, _), (18, _), (17, _), (16, _), (13, _), (5, _), (4, _), (0, _)]) rfl ?_; rintro a w v L ⟨L1, ⟨rfl, rfl⟩, rfl⟩ hf hT
      refine rd hf rfl (yl_not rfl) rfl rfl ?_; intro a hf
      refine plan_nil ?_
      replace hf := hf.sel [21, 5, 4, 0] (l' := [(21, _), (5, _), (4, _), (0, _)]) rfl
      refine wp_if hf rfl (fun hv => ?_) (fun hv => ?_)
      · -- then
        simp [hok] at hv
      · -- else
        refine wpIn_skip ?_
        -- region 6 (ref.go:289)
        refine wp_reg ([]) ([] ++ rs) [(0, true), (1, true), (2, true)] mixed (by kernel_rfl) (hT) ?_; intro w hT
        refine rd hf rfl (yl_move rfl) rfl rfl ?_; intro a hf
        refine rd hf rfl (yl_add rfl rfl (by unfold inI64; omega)) rfl rfl ?_; intro a hf
        refine rw_ hf rfl (yl_assign rfl) rfl (l' := [(5, _), (15, _), (14, _), (21, _), (4, _), (0, _)]) rfl ?_; intro a hf
        refine plan_nil ?_
        replace hf := hf.sel [5, 4, 0] (l' := [(5, _), (4, _), (0, _)]) rfl
        exact ⟨k + 1, _, hf.sel [5, 4, 0] rfl, ⟨rfl, by omega⟩, hT, by first | omega | (dsimp only; omega)⟩
    · -- else
      refine wpIn_exit ?_
      refine then_exit ?_
      refine then_exit ?_
      refine inBlock_hit ?_
      refine wpIn_seq ?_
      refine wpIn_seq ?_
      -- region 9 (ref.go:294)
      refine wp_reg ([]) ([] ++ rs) [(0, true)] mixed (by kernel_rfl) (hT) ?_; intro w hT
      refine rd hf rfl (yl_assign rfl) rfl rfl ?_; intro a hf
      refine plan_nil ?_
      refine wpIn_block ?_
      replace hT := hT.emp
      refine wp_loopS (σ := Nat × Value) (fun (k, q) => [(6, .int .i64 (k : Nat)), (4, q)]) [(0, _)] (fun (k, q) L => k ≤ S.length ∧ ∃ XD, Sl encSp 65 q (coverF (S.take k)) XD ∧ L = [XD]) (fun (k, q) => S.length - k) (0, .slice none 0 0) (L := [_]) (R := [] ++ rs) (hf.sel [6, 4, 0] rfl) (⟨Nat.zero_le _, _, by simpa [coverF] using sl_nil, rfl⟩) hT ?_
      clear hf hT; rintro ⟨k, q⟩ a w L hf ⟨hk, XD, hD, rfl⟩ hT
      replace hf : Fr _ [(6, .int .i64 (k : Nat)), (4, q), (0, _)] _ _ := hf
      have hco := coverF_ok hS k hk
      have hsuc := coverF_succ (l := S) (k := k)
      generalize hcv : coverF (S.take k) = cv at hD hco hsuc
      refine wpIn_seq ?_
      refine wpIn_seq ?_
      -- region 10 (ref.go:294)
      refine wp_reg ([]) ([_] ++ rs) [(0, true), (1, true), (2, true), (3, true)] mixed (by kernel_rfl) (hT) ?_; intro w hT
      refine rd hf rfl (yl_move rfl) rfl rfl ?_; intro a hf
      refine rd hf rfl (yl_move rfl) rfl rfl ?_; intro a hf
      refine rd hf rfl (yl_lenE rfl Try.underlying58 hE.app) rfl rfl ?_; intro a hf
      refine rd hf rfl (yl_cmp rfl rfl rfl) rfl rfl ?_; intro a hf
      refine plan_nil ?_
      replace hf := hf.sel [25, 6, 4, 0] (l' := [(25, _), (6, _), (4, _), (0, _)]) rfl
      refine wp_ifd hf rfl (fun hlt => ?_) (fun hlt => ?_)
      · -- then
        have hltk : k < S.length := by omega
        have hj : S[k]? = some S[k] := List.getElem?_eq_getElem hltk
        have hok := hS _ (List.getElem_mem hltk)
        refine wpIn_skip ?_
        refine wpIn_seq ?_
        refine wpIn_block ?_
        -- region 12 (ref.go:295)
        refine wp_reg ([]) ([_] ++ rs) [(0, true), (1, true), (2, true), (3, true), (4, true), (5, false), (6, true)] mixed (by kernel_rfl) (hT) ?_; intro w hT
        refine rd hf rfl (yl_move rfl) rfl rfl ?_; intro a hf
        refine rd hf rfl (yl_move rfl) rfl rfl ?_; intro a hf
        refine rd hf rfl (yl_move rfl) rfl rfl ?_; intro a hf
        refine rd hf rfl (yl_indexE rfl rfl Try.underlying58 sz_65 hE.app (by omega) (by omega)) rfl rfl ?_; intro a hf
        refine rd hf rfl (yl_loadA Try.underlying65 rfl sz_65 rfl (hE.app.row hj) rfl) rfl rfl ?_; intro a hf
        refine ef_call hf rfl (wanted_none _ _ rfl) rfl rfl (by kernel_rfl) (Spec.frame (L2 := []) (put_spec cv q (hD.els (.head _)) hco.1 (by omega) S[k] hok hT)) rfl (l' := [(32, _), (31, _), (30, _), (29, _), (28, _), (25, _), (6, _), (4, _), (0, _)]) rfl ?_; rintro a w q2 L ⟨L1, ⟨XN, hN, rfl⟩, rfl⟩ hf hT
        refine rw_ hf rfl (yl_assign rfl) rfl (l' := [(4, _), (33, _), (32, _), (31, _), (30, _), (29, _), (28, _), (25, _), (6, _), (0, _)]) rfl ?_; intro a hf
        refine plan_nil ?_
        replace hf := hf.sel [4, 6, 0] (l' := [(4, _), (6, _), (0, _)]) rfl
        -- region 11 (ref.go:294)
        refine wp_reg ([]) ([_, _] ++ rs) [(0, true), (1, true), (2, true)] mixed (by kernel_rfl) (hT) ?_; intro w hT
        refine rd hf rfl (yl_move rfl) rfl rfl ?_; intro a hf
        refine rd hf rfl (yl_add rfl rfl (by unfold inI64; omega)) rfl rfl ?_; intro a hf
        refine rw_ hf rfl (yl_assign rfl) rfl (l' := [(6, _), (27, _), (26, _), (4, _), (0, _)]) rfl ?_; intro a hf
        refine plan_nil ?_
        exact ⟨(k + 1, q2), _, hf.sel [6, 4, 0] rfl, ⟨by omega, _, by rw [hsuc hltk]; exact hN, rfl⟩, (hT.brings [1]).tail, by first | omega | (dsimp only; omega)⟩
      · -- else
        obtain rfl : k = S.length := by omega
        refine wpIn_exit ?_
        refine then_exit ?_
        refine then_exit ?_
        refine inBlock_hit ?_
        refine wpIn_seq ?_
        -- region 13 (ref.go:297)
        refine wp_reg ([]) ([_] ++ rs) [(0, true), (1, true), (2, true)] mixed (by kernel_rfl) (hT) ?_; intro w hT
        refine rd hf rfl (yl_move rfl) rfl rfl ?_; intro a hf
        refine rd hf rfl (yl_assign rfl) rfl rfl ?_; intro a hf
        refine rd hf rfl (yl_assign rfl) rfl rfl ?_; intro a hf
        refine plan_nil ?_
        replace hf := hf.sel [3, 2] (l' := [(3, _), (2, _)]) rfl
        refine wpIn_ret ?_
        exact body_ret hf (L := [_]) (hT) rfl rfl ⟨q, _, rfl, by rw [List.take_length] at hcv; rw [hcv]; exact hD, rfl⟩
def RI (b : Nat) (xs : List Rec) (Ls : List Part) : Prop := ∃ lv X, Ls = [pt b (.cells #[lv] 75), X] ∧ Sl encRec 31 lv xs X
def RIIn (R : List Part) (b : Nat) (xs : List Rec) : Prop := ∃ lv, RowIn R b 0 [lv] ∧ Els encRec R lv xs
theorem RI.inn {b : Nat} {xs : List Rec} {Ls R : List Part} (h : RI b xs Ls) (hs : ∀ x ∈ Ls, x ∈ R) : RIIn R b xs := by
  obtain ⟨lv, X, rfl, h1⟩ := h
  exact ⟨lv, RowIn.of_block (hs _ (.head _)) (pt_self _ _) (fun j hj => by simp), h1.els (hs _ (.tail _ (.head _)))⟩
theorem RIIn.app {b : Nat} {xs : List Rec} {R R' : List Part} (h : RIIn R b xs) : RIIn (R' ++ R) b xs := by
  obtain ⟨lv, h1, h2⟩ := h; exact ⟨lv, rowIn_app h1, h2.app⟩
theorem rAcks_spec {e : Env} {w : World} {rs : List Part} (b : Nat) (xs : List Rec) (hB : RIIn rs b xs) (hI : Inb xs) (hT : Tot e w rs) : Spec Try.prog 36 #[.pointer (some ⟨b, 0, none⟩)] e w rs (fun v L => ∃ X, Sl encSp 65 v (runs (rids xs)) X ∧ L = [X]) := by
  refine spec_body Try.func36 rfl Try.ntmps36 rfl rfl ?_
  intro a hf
  obtain ⟨lv, hrow, hE⟩ := hB
  refine wpIn_seq ?_
  -- region 0 (ref.go:177)
  refine wp_reg ([]) ([] ++ rs) [(0, true)] mixed (by kernel_rfl) (hT) ?_; intro w hT
  refine rd hf rfl (yl_assign rfl) rfl rfl ?_; intro a hf
  refine plan_nil ?_
  refine wpIn_seq ?_
  -- region 1 (ref.go:178)
  refine wp_reg ([]) ([] ++ rs) [(0, true)] mixed (by kernel_rfl) (hT) ?_; intro w hT
  refine rd hf rfl (yl_assign rfl) rfl rfl ?_; intro a hf
  refine plan_nil ?_
  refine wpIn_seq ?_
  refine wpIn_seq ?_
  -- region 2 (ref.go:179)
  refine wp_reg ([]) ([] ++ rs) [(0, true)] mixed (by kernel_rfl) (hT) ?_; intro w hT
  refine rd hf rfl (yl_assign rfl) rfl rfl ?_; intro a hf
  refine plan_nil ?_
  refine wpIn_block ?_
  replace hT := hT.emp
  have hlen := hI.len
  have hrl : (rids xs).length = xs.length := by simp [rids]
  have hsl : (singles xs).length = xs.length := by simp [singles, rids]
  refine wp_loopS (σ := Nat × Value) (fun (k, q) => [(4, .int .i64 (k : Nat)), (3, q)]) [(0, _)] (fun (k, q) L => k ≤ xs.length ∧ ∃ XD, Sl encSp 65 q ((singles xs).take k) XD ∧ L = [XD]) (fun (k, q) => xs.length - k) (0, .slice none 0 0) (L := [_]) (R := [] ++ rs) (hf.sel [4, 3, 0] rfl) (⟨Nat.zero_le _, _, sl_nil, rfl⟩) hT ?_
  clear hf hT; rintro ⟨k, q⟩ a w L hf ⟨hk, XD, hD, rfl⟩ hT
  replace hf : Fr _ [(4, .int .i64 (k : Nat)), (3, q), (0, _)] _ _ := hf
  refine wpIn_seq ?_
  refine wpIn_seq ?_
  -- region 3 (ref.go:179)
  refine wp_reg ([]) ([_] ++ rs) [(0, true), (1, true), (2, true), (3, true), (4, true), (5, true), (6, true)] mixed (by kernel_rfl) (hT) ?_; intro w hT
  refine rd hf rfl (yl_move rfl) rfl rfl ?_; intro a hf
  refine rd hf rfl (yl_move rfl) rfl rfl ?_; intro a hf
  refine rd hf rfl (yl_nil rfl) rfl rfl ?_; intro a hf
  refine rd hf rfl (yl_faddr Try.underlying75 rfl rfl sz_70 (k := 0) rfl) rfl rfl ?_; intro a hf
  refine rd hf rfl (yl_load Try.underlying70 rfl rfl (hrow 0 _ rfl).app) rfl rfl ?_; intro a hf
  refine rd hf rfl (yl_lenE rfl Try.underlying70 hE.app) rfl rfl ?_; intro a hf
  refine rd hf rfl (yl_cmp rfl rfl rfl) rfl rfl ?_; intro a hf
  refine plan_nil ?_
  replace hf := hf.sel [13, 4, 3, 0] (l' := [(13, _), (4, _), (3, _), (0, _)]) rfl
  refine wp_ifd hf rfl (fun hlt => ?_) (fun hlt => ?_)
  · -- then
    have hltk : k < xs.length := by omega
    have hj : xs[k]? = some xs[k] := List.getElem?_eq_getElem hltk
    refine wpIn_skip ?_
    refine wpIn_seq ?_
    refine wpIn_block ?_
    -- region 5 (ref.go:180)
    refine wp_reg ([_]) ([] ++ rs) [(0, true), (1, true), (2, true), (3, true), (4, true), (5, true), (6, true), (7, true), (8, true), (9, true), (10, true), (11, true), (12, true), (13, true), (14, true), (15, true), (16, true), (17, true), (18, false), (19, false), (20, true)] mixed (by kernel_rfl) (hT.brings [0]) ?_; intro w hT
    refine rd hf rfl (yl_move rfl) rfl rfl ?_; intro a hf
    refine rd hf rfl (yl_move rfl) rfl rfl ?_; intro a hf
    refine rd hf rfl (yl_nil rfl) rfl rfl ?_; intro a hf
    refine rd hf rfl (yl_faddr Try.underlying75 rfl rfl sz_70 (k := 0) rfl) rfl rfl ?_; intro a hf
    refine rd hf rfl (yl_load Try.underlying70 rfl rfl (hrow 0 _ rfl).app) rfl rfl ?_; intro a hf
    refine rd hf rfl (yl_move rfl) rfl rfl ?_; intro a hf
    refine rd hf rfl (yl_indexE rfl rfl Try.underlying70 sz_31 hE.app (by omega) (by omega)) rfl rfl ?_; intro a hf
    refine rd hf rfl (yl_faddr Try.underlying31 rfl rfl sz_2 rfl) rfl rfl ?_; intro a hf
    refine rd hf rfl (yl_load Try.underlying2 rfl rfl (hE.app.cell hj (f := 0) rfl)) rfl rfl ?_; intro a hf
    refine rd hf rfl (yl_move rfl) rfl rfl ?_; intro a hf
    refine rd hf rfl (yl_nil rfl) rfl rfl ?_; intro a hf
    refine rd hf rfl (yl_faddr Try.underlying75 rfl rfl sz_70 (k := 0) rfl) rfl rfl ?_; intro a hf
    refine rd hf rfl (yl_load Try.underlying70 rfl rfl (hrow 0 _ rfl).app) rfl rfl ?_; intro a hf
    refine rd hf rfl (yl_move rfl) rfl rfl ?_; intro a hf
    refine rd hf rfl (yl_indexE rfl rfl Try.underlying70 sz_31 hE.app (by omega) (by omega)) rfl rfl ?_; intro a hf
    refine rd hf rfl (yl_faddr Try.underlying31 rfl rfl sz_2 rfl) rfl rfl ?_; intro a hf
    refine rd hf rfl (yl_load Try.underlying2 rfl rfl (hE.app.cell hj (f := 0) rfl)) rfl rfl ?_; intro a hf
    refine rd hf rfl (yl_build rfl Try.underlying65 zr_65 (places := [(0, 1), (1, 1)]) (by kernel_rfl) (by kernel_rfl) (out := (Sp.mk xs[k].id xs[k].id).cells) rfl) rfl rfl ?_; intro a hf
    refine ef hf hT rfl rfl (ef_buildSlice (E := encSp) (xs := [⟨xs[k].id, xs[k].id⟩]) rfl rfl Try.underlying58 zs_65 rfl (by decide) rfl (by decide)) rfl (l' := [(33, _), (32, _), (31, _), (30, _), (29, _), (28, _), (27, _), (26, _), (25, _), (24, _), (23, _), (22, _), (21, _), (20, _), (19, _), (18, _), (17, _), (16, _), (13, _), (4, _), (3, _), (0, _)]) rfl ?_; rintro a w one L ⟨b1, p1, hvp1, hp1, rfl⟩ hf hT
    replace hT : Tot _ _ ([_, _] ++ ([] ++ rs)) := hT.bring 1
    refine ef hf hT rfl rfl (ef_append (E := encSp) (L := [_]) rfl rfl Try.underlying58 zb_65 rfl hD (hp1.els (.tail _ (.head _))) (by simp; omega) (by simp [maxLen]; omega)) rfl (l' := [(34, _), (33, _), (32, _), (31, _), (30, _), (29, _), (28, _), (27, _), (26, _), (25, _), (24, _), (23, _), (22, _), (21, _), (20, _), (19, _), (18, _), (17, _), (16, _), (13, _), (4, _), (3, _), (0, _)]) rfl ?_; rintro a w q2 L ⟨X1, hS1, rfl⟩ hf hT
    refine rw_ hf rfl (yl_assign rfl) rfl (l' := [(3, _), (35, _), (34, _), (33, _), (32, _), (31, _), (30, _), (29, _), (28, _), (27, _), (26, _), (25, _), (24, _), (23, _), (22, _), (21, _), (20, _), (19, _), (18, _), (17, _), (16, _), (13, _), (4, _), (0, _)]) rfl ?_; intro a hf
    refine plan_nil ?_
    replace hf := hf.sel [3, 4, 0] (l' := [(3, _), (4, _), (0, _)]) rfl
    -- region 4 (ref.go:179)
    refine wp_reg ([]) ([_, _] ++ rs) [(0, true), (1, true), (2, true)] mixed (by kernel_rfl) (hT) ?_; intro w hT
    refine rd hf rfl (yl_move rfl) rfl rfl ?_; intro a hf
    refine rd hf rfl (yl_add rfl rfl (by unfold inI64; omega)) rfl rfl ?_; intro a hf
    refine rw_ hf rfl (yl_assign rfl) rfl (l' := [(4, _), (15, _), (14, _), (3, _), (0, _)]) rfl ?_; intro a hf
    refine plan_nil ?_
    exact ⟨(k + 1, q2), _, hf.sel [4, 3, 0] rfl, ⟨by omega, _, by rw [List.take_succ_eq_append_getElem (by omega), show (singles xs)[k]'(by omega) = ⟨xs[k].id, xs[k].id⟩ by simp [singles, rids]]; exact hS1, rfl⟩, (hT.brings [1]).tail, by first | omega | (dsimp only; omega)⟩
  · -- else
    obtain rfl : k = xs.length := by omega
    rw [List.take_of_length_le (by omega)] at hD
    have hok : ∀ p ∈ singles xs, p.Ok := fun p hp => by obtain ⟨y, hy, rfl⟩ := List.mem_map.1 hp; obtain ⟨r, hr, rfl⟩ := List.mem_map.1 hy; have h1 := hI.ok r hr; unfold Rec.Ok at h1; exact sp_one ⟨by omega, by omega⟩
    refine wpIn_exit ?_
    refine then_exit ?_
    refine then_exit ?_
    refine inBlock_hit ?_
    refine wpIn_seq ?_
    -- region 6 (ref.go:182)
    refine wp_reg ([]) ([_] ++ rs) [(0, true), (1, false), (2, true), (3, true), (4, true), (5, true), (6, true)] mixed (by kernel_rfl) (hT) ?_; intro w hT
    refine rd hf rfl (yl_move rfl) rfl rfl ?_; intro a hf
    refine ef_call hf rfl (wanted_none _ _ rfl) rfl rfl (by kernel_rfl) (Spec.frame (L2 := []) (rCover_spec (singles xs) q (hD.els (.head _)) hok (by omega) hT)) rfl (l' := [(37, _), (13, _), (4, _), (3, _), (0, _)]) rfl ?_; rintro a w v L ⟨L1, ⟨qn, XN, rfl, hN, rfl⟩, rfl⟩ hf hT
    refine rd hf rfl (yl_move rfl) rfl rfl ?_; intro a hf
    refine rd hf rfl (yl_extract rfl rfl) rfl rfl ?_; intro a hf
    refine rd hf rfl (yl_extract rfl rfl) rfl rfl ?_; intro a hf
    refine rd hf rfl (yl_assign rfl) rfl rfl ?_; intro a hf
    refine rd hf rfl (yl_assign rfl) rfl rfl ?_; intro a hf
    refine plan_nil ?_
    replace hf := hf.sel [5] (l' := [(5, _)]) rfl
    refine wpIn_seq ?_
    -- region 7 (ref.go:183)
    refine wp_reg ([]) ([_, _] ++ rs) [(0, true), (1, true)] mixed (by kernel_rfl) (hT) ?_; intro w hT
    refine rd hf rfl (yl_move rfl) rfl rfl ?_; intro a hf
    refine rd hf rfl (yl_assign rfl) rfl rfl ?_; intro a hf
    refine plan_nil ?_
    refine wpIn_ret ?_
    exact body_ret hf (L := [_]) ((hT.brings [1]).tail) rfl rfl ⟨XN, by rw [← cover_runs (rids xs) (List.pairwise_map.2 hI.srt)]; exact hN, rfl⟩
theorem insI_eq (L : List Rec) (r : Rec) {k : Nat} (hk : k = posI L r) : [] ++ (L.drop 0).take (k - 0) ++ [r] ++ (L.drop k).take (L.length - k) = insI L r := by
  subst hk
  have h1 := posI_le L r
  rw [List.take_of_length_le (l := L.drop (posI L r)) (by simp), List.drop_zero, Nat.sub_zero, show L.take (posI L r) = _ from tw_take _ _, show L.drop (posI L r) = _ from tw_drop _ _]
  simp [insI]
theorem rTake_spec {e : Env} {w : World} {rs : List Part} (b : Nat) (xs : List Rec) (Lb : List Part) (hB : RI b xs Lb) (hI : Inb xs) (r : Rec) (hT : Tot e w (Lb ++ rs)) : Spec Try.prog 34 #[.pointer (some ⟨b, 0, none⟩), encR r] e w rs (fun v L => ∃ xs' ok er Lb', v = .tuple #[.bool ok, .int .i64 er] ∧ RI b xs' Lb' ∧ L = Lb' ∧ TakeRes xs r xs' ok er) := by
  refine spec_body Try.func34 rfl Try.ntmps34 rfl rfl ?_
  intro a hf
  obtain ⟨lv, X, rfl, hS⟩ := hB
  obtain ⟨A0, c0, hv, hc0⟩ := hS.shape
  have hSv : Sl encRec 31 (.slice A0 xs.length c0) xs X := by rw [← hv]; exact hS
  refine wpIn_seq ?_
  -- region 0 (ref.go:158)
  refine wp_reg ([]) ([_, _] ++ rs) [(0, false), (1, true), (2, true)] mixed (by kernel_rfl) (hT) ?_; intro w hT
  refine ef hf hT rfl rfl (ef_box rfl) rfl (l' := [(0, _), (1, _)]) rfl ?_; rintro a w v L ⟨b1, rfl, rfl⟩ hf hT
  refine rd hf rfl (yl_assign rfl) rfl rfl ?_; intro a hf
  refine rd hf rfl (yl_assign rfl) rfl rfl ?_; intro a hf
  refine plan_nil ?_
  replace hf := hf.sel [3, 0] (l' := [(3, _), (0, _)]) rfl
  refine wpIn_seq ?_
  refine wpIn_seq ?_
  -- region 1 (ref.go:159)
  refine wp_reg ([]) ([_, _, _] ++ rs) [(0, true), (1, false), (2, true)] mixed (by kernel_rfl) (hT) ?_; intro w hT
  refine rd hf rfl (yl_loadB Try.underlying31 rfl sz_31 (vs := r.cells) (.head _) rfl (pt_self _ _) rfl rfl) rfl rfl ?_; intro a hf
  refine ef_call hf rfl (wanted_none _ _ rfl) rfl rfl (by kernel_rfl) (Spec.frame (L2 := []) (rCheck_spec r hT)) rfl (l' := [(7, _), (3, _), (0, _)]) rfl ?_; rintro a w v L ⟨L1, ⟨rfl, rfl⟩, rfl⟩ hf hT
  refine rd hf rfl (yl_cmp rfl rfl rfl) rfl rfl ?_; intro a hf
  refine plan_nil ?_
  refine wp_ifd hf rfl (fun hok => ?_) (fun hok => ?_)
  · -- then
    have hok' : ¬ r.Ok := fun h => hok (by rw [if_pos h])
    refine wpIn_seq ?_
    -- region 2 (ref.go:160)
    refine wp_reg ([]) ([_, _, _] ++ rs) [(0, true), (1, true)] mixed (by kernel_rfl) (hT) ?_; intro w hT
    refine rd hf rfl (yl_assign rfl) rfl rfl ?_; intro a hf
    refine rd hf rfl (yl_assign rfl) rfl rfl ?_; intro a hf
    refine plan_nil ?_
    replace hf := hf.sel [5, 4] (l' := [(5, _), (4, _)]) rfl
    refine wpIn_ret ?_
    exact body_ret hf (L := [_, _]) ((hT.brings [0]).tail) rfl rfl ⟨xs, false, 2, _, rfl, ⟨lv, X, rfl, hS⟩, rfl, .inl ⟨hok', rfl, rfl, rfl⟩⟩
  · -- else
    have hrok : r.Ok := by by_cases h : r.Ok; exact h; exact absurd (by rw [if_neg h]; decide) hok
    have hpp := posI_part hI.srt r
    have hpl := posI_le xs r
    have hlen := hI.len
    refine wpIn_skip ?_
    refine wpIn_seq ?_
    -- region 3 (ref.go:162)
    refine wp_reg ([]) ([_, _, _] ++ rs) [(0, true)] mixed (by kernel_rfl) (hT) ?_; intro w hT
    refine rd hf rfl (yl_assign rfl) rfl rfl ?_; intro a hf
    refine plan_nil ?_
    replace hf := hf.sel [6, 3, 0] (l' := [(6, _), (3, _), (0, _)]) rfl
    refine wpIn_seq ?_
    have hf0 := hf.sel [3, 0] (l' := [(3, _), (0, _)]) rfl
    refine wp_cut (σ := Nat) (L0 := []) (R := [_, _, _] ++ rs) hf0 hT (fun k => [(6, .int .i64 (k : Nat))]) (fun k L => k = posI xs r ∧ L = []) ?_ ?_
    · clear hf0
      refine wpIn_block ?_
      refine wp_loopS (σ := Nat) (fun k => [(6, .int .i64 (k : Nat))]) [(3, _), (0, _)] (fun k L => L = [] ∧ k ≤ posI xs r) (fun k => xs.length - k) 0 (L := []) (R := [_, _, _] ++ rs) (hf.sel [6, 3, 0] rfl) (⟨rfl, Nat.zero_le _⟩) hT ?_
      clear hf hT; rintro k a w L hf ⟨rfl, hk⟩ hT
      replace hf : Fr _ [(6, .int .i64 (k : Nat)), (3, _), (0, _)] _ _ := hf
      refine wpIn_seq ?_
      refine wpIn_seq ?_
      -- region 4 (ref.go:163)
      refine wp_reg ([]) ([_, _, _] ++ rs) [(0, true), (1, true), (2, true), (3, true), (4, true), (5, true), (6, true), (7, true), (8, true), (9, true), (10, true), (11, true), (12, true), (13, true), (14, true), (15, true), (16, true), (17, true), (18, true), (19, true)] mixed (by kernel_rfl) (hT) ?_; intro w hT
      refine rd hf rfl (yl_move rfl) rfl rfl ?_; intro a hf
      refine rd hf rfl (yl_move rfl) rfl rfl ?_; intro a hf
      refine rd hf rfl (yl_nil rfl) rfl rfl ?_; intro a hf
      refine rd hf rfl (yl_faddr Try.underlying75 rfl rfl sz_70 (k := 0) rfl) rfl rfl ?_; intro a hf
      refine rd hf rfl (yl_load Try.underlying70 rfl rfl ⟨_, .tail _ (.head _), _, _, _, pt_self _ _, rfl⟩) rfl rfl ?_; intro a hf
      refine rd hf rfl (yl_lenE rfl Try.underlying70 (hS.els (.tail _ (.tail _ (.head _))))) rfl rfl ?_; intro a hf
      refine rd hf rfl (yl_cmp rfl rfl rfl) rfl rfl ?_; intro a hf
      refine rd hf rfl (yl_move rfl) rfl rfl ?_; intro a hf
      by_cases hg7 : ((k : Nat) : Int) < (xs.length : Nat)
      · have hgT1 : decide (((k : Nat) : Int) < (xs.length : Nat)) = true := by simpa using hg7
        have hltk : k < xs.length := by omega
        have hj : xs[k]? = some xs[k] := List.getElem?_eq_getElem hltk
        refine rdT hf rfl rfl rfl rfl (by first | exact hgT1 | simp [hgT1]) (yl_move rfl) rfl (l' := [(18, _), (17, _), (16, _), (15, _), (14, _), (13, _), (12, _), (11, _), (10, _), (6, _), (3, _), (0, _)]) rfl ?_; intro a hf
        refine rdT hf rfl rfl rfl rfl (by first | exact hgT1 | simp [hgT1]) (yl_nil rfl) rfl (l' := [(19, _), (18, _), (17, _), (16, _), (15, _), (14, _), (13, _), (12, _), (11, _), (10, _), (6, _), (3, _), (0, _)]) rfl ?_; intro a hf
        refine rdT hf rfl rfl rfl rfl (by first | exact hgT1 | simp [hgT1]) (yl_faddr Try.underlying75 rfl rfl sz_70 (k := 0) rfl) rfl (l' := [(20, _), (19, _), (18, _), (17, _), (16, _), (15, _), (14, _), (13, _), (12, _), (11, _), (10, _), (6, _), (3, _), (0, _)]) rfl ?_; intro a hf
        refine rdT hf rfl rfl rfl rfl (by first | exact hgT1 | simp [hgT1]) (yl_load Try.underlying70 rfl rfl ⟨_, .tail _ (.head _), _, _, _, pt_self _ _, rfl⟩) rfl (l' := [(21, _), (20, _), (19, _), (18, _), (17, _), (16, _), (15, _), (14, _), (13, _), (12, _), (11, _), (10, _), (6, _), (3, _), (0, _)]) rfl ?_; intro a hf
        refine rdT hf rfl rfl rfl rfl (by first | exact hgT1 | simp [hgT1]) (yl_move rfl) rfl (l' := [(22, _), (21, _), (20, _), (19, _), (18, _), (17, _), (16, _), (15, _), (14, _), (13, _), (12, _), (11, _), (10, _), (6, _), (3, _), (0, _)]) rfl ?_; intro a hf
        refine rdT hf rfl rfl rfl rfl (by first | exact hgT1 | simp [hgT1]) (yl_indexE rfl rfl Try.underlying70 sz_31 (hS.els (.tail _ (.tail _ (.head _)))) (by omega) (by omega)) rfl (l' := [(23, _), (22, _), (21, _), (20, _), (19, _), (18, _), (17, _), (16, _), (15, _), (14, _), (13, _), (12, _), (11, _), (10, _), (6, _), (3, _), (0, _)]) rfl ?_; intro a hf
        refine rdT hf rfl rfl rfl rfl (by first | exact hgT1 | simp [hgT1]) (yl_faddr Try.underlying31 rfl rfl sz_2 rfl) rfl (l' := [(24, _), (23, _), (22, _), (21, _), (20, _), (19, _), (18, _), (17, _), (16, _), (15, _), (14, _), (13, _), (12, _), (11, _), (10, _), (6, _), (3, _), (0, _)]) rfl ?_; intro a hf
        refine rdT hf rfl rfl rfl rfl (by first | exact hgT1 | simp [hgT1]) (yl_load Try.underlying2 rfl rfl ((hS.els (.tail _ (.tail _ (.head _)))).cell hj (f := 0) rfl)) rfl (l' := [(25, _), (24, _), (23, _), (22, _), (21, _), (20, _), (19, _), (18, _), (17, _), (16, _), (15, _), (14, _), (13, _), (12, _), (11, _), (10, _), (6, _), (3, _), (0, _)]) rfl ?_; intro a hf
        refine rdT hf rfl rfl rfl rfl (by first | exact hgT1 | simp [hgT1]) (yl_faddr Try.underlying31 rfl rfl sz_2 (k := 0) rfl) rfl (l' := [(26, _), (25, _), (24, _), (23, _), (22, _), (21, _), (20, _), (19, _), (18, _), (17, _), (16, _), (15, _), (14, _), (13, _), (12, _), (11, _), (10, _), (6, _), (3, _), (0, _)]) rfl ?_; intro a hf
        refine rdT hf rfl rfl rfl rfl (by first | exact hgT1 | simp [hgT1]) (yl_load Try.underlying2 rfl rfl ⟨_, .head _, _, _, _, pt_self _ _, rfl⟩) rfl (l' := [(27, _), (26, _), (25, _), (24, _), (23, _), (22, _), (21, _), (20, _), (19, _), (18, _), (17, _), (16, _), (15, _), (14, _), (13, _), (12, _), (11, _), (10, _), (6, _), (3, _), (0, _)]) rfl ?_; intro a hf
        refine rdT hf rfl rfl rfl rfl (by first | exact hgT1 | simp [hgT1]) (yl_cmp rfl rfl rfl) rfl (l' := [(28, _), (27, _), (26, _), (25, _), (24, _), (23, _), (22, _), (21, _), (20, _), (19, _), (18, _), (17, _), (16, _), (15, _), (14, _), (13, _), (12, _), (11, _), (10, _), (6, _), (3, _), (0, _)]) rfl ?_; intro a hf
        refine rd hf rfl (yl_pickTT rfl hgT1 rfl) rfl rfl ?_; intro a hf
        refine plan_nil ?_
        replace hf := hf.sel [29, 6, 3, 0] (l' := [(29, _), (6, _), (3, _), (0, _)]) rfl
        refine wp_ifd hf rfl (fun hlo => ?_) (fun hlo => ?_)
        · -- then
          refine wpIn_skip ?_
          refine wpIn_block ?_
          -- region 5 (ref.go:164)
          refine wp_reg ([]) ([_, _, _] ++ rs) [(0, true), (1, true), (2, true)] mixed (by kernel_rfl) (hT) ?_; intro w hT
          refine rd hf rfl (yl_move rfl) rfl rfl ?_; intro a hf
          refine rd hf rfl (yl_add rfl rfl (by unfold inI64; omega)) rfl rfl ?_; intro a hf
          refine rw_ hf rfl (yl_assign rfl) rfl (l' := [(6, _), (31, _), (30, _), (29, _), (3, _), (0, _)]) rfl ?_; intro a hf
          refine plan_nil ?_
          replace hf := hf.sel [6, 3, 0] (l' := [(6, _), (3, _), (0, _)]) rfl
          exact ⟨k + 1, _, hf.sel [6, 3, 0] rfl, ⟨rfl, (hpp k hltk).1 hlo⟩, hT, by first | omega | (dsimp only; omega)⟩
        · -- else
          have hkp : k = posI xs r := by have h1 : ¬ k < posI xs r := fun h => hlo ((hpp k hltk).2 h); omega
          refine wpIn_exit ?_
          refine then_exit ?_
          refine then_exit ?_
          refine inBlock_hit ?_
          exact ⟨k, _, hf.sel [6, 3, 0] rfl, ⟨hkp, rfl⟩, hT⟩
      · have hgT1 : decide (((k : Nat) : Int) < (xs.length : Nat)) = false := by simpa using hg7
        have hkp : k = posI xs r := by omega
        refine rdF hf rfl rfl rfl rfl (by first | exact hgT1 | simp [hgT1]) rfl (l' := [(18, _), (17, _), (16, _), (15, _), (14, _), (13, _), (12, _), (11, _), (10, _), (6, _), (3, _), (0, _)]) rfl ?_; intro a hf
        refine rdF hf rfl rfl rfl rfl (by first | exact hgT1 | simp [hgT1]) rfl (l' := [(19, _), (18, _), (17, _), (16, _), (15, _), (14, _), (13, _), (12, _), (11, _), (10, _), (6, _), (3, _), (0, _)]) rfl ?_; intro a hf
        refine rdF hf rfl rfl rfl rfl (by first | exact hgT1 | simp [hgT1]) rfl (l' := [(20, _), (19, _), (18, _), (17, _), (16, _), (15, _), (14, _), (13, _), (12, _), (11, _), (10, _), (6, _), (3, _), (0, _)]) rfl ?_; intro a hf
        refine rdF hf rfl rfl rfl rfl (by first | exact hgT1 | simp [hgT1]) rfl (l' := [(21, _), (20, _), (19, _), (18, _), (17, _), (16, _), (15, _), (14, _), (13, _), (12, _), (11, _), (10, _), (6, _), (3, _), (0, _)]) rfl ?_; intro a hf
        refine rdF hf rfl rfl rfl rfl (by first | exact hgT1 | simp [hgT1]) rfl (l' := [(22, _), (21, _), (20, _), (19, _), (18, _), (17, _), (16, _), (15, _), (14, _), (13, _), (12, _), (11, _), (10, _), (6, _), (3, _), (0, _)]) rfl ?_; intro a hf
        refine rdF hf rfl rfl rfl rfl (by first | exact hgT1 | simp [hgT1]) rfl (l' := [(23, _), (22, _), (21, _), (20, _), (19, _), (18, _), (17, _), (16, _), (15, _), (14, _), (13, _), (12, _), (11, _), (10, _), (6, _), (3, _), (0, _)]) rfl ?_; intro a hf
        refine rdF hf rfl rfl rfl rfl (by first | exact hgT1 | simp [hgT1]) rfl (l' := [(24, _), (23, _), (22, _), (21, _), (20, _), (19, _), (18, _), (17, _), (16, _), (15, _), (14, _), (13, _), (12, _), (11, _), (10, _), (6, _), (3, _), (0, _)]) rfl ?_; intro a hf
        refine rdF hf rfl rfl rfl rfl (by first | exact hgT1 | simp [hgT1]) rfl (l' := [(25, _), (24, _), (23, _), (22, _), (21, _), (20, _), (19, _), (18, _), (17, _), (16, _), (15, _), (14, _), (13, _), (12, _), (11, _), (10, _), (6, _), (3, _), (0, _)]) rfl ?_; intro a hf
        refine rdF hf rfl rfl rfl rfl (by first | exact hgT1 | simp [hgT1]) rfl (l' := [(26, _), (25, _), (24, _), (23, _), (22, _), (21, _), (20, _), (19, _), (18, _), (17, _), (16, _), (15, _), (14, _), (13, _), (12, _), (11, _), (10, _), (6, _), (3, _), (0, _)]) rfl ?_; intro a hf
        refine rdF hf rfl rfl rfl rfl (by first | exact hgT1 | simp [hgT1]) rfl (l' := [(27, _), (26, _), (25, _), (24, _), (23, _), (22, _), (21, _), (20, _), (19, _), (18, _), (17, _), (16, _), (15, _), (14, _), (13, _), (12, _), (11, _), (10, _), (6, _), (3, _), (0, _)]) rfl ?_; intro a hf
        refine rdF hf rfl rfl rfl rfl (by first | exact hgT1 | simp [hgT1]) rfl (l' := [(28, _), (27, _), (26, _), (25, _), (24, _), (23, _), (22, _), (21, _), (20, _), (19, _), (18, _), (17, _), (16, _), (15, _), (14, _), (13, _), (12, _), (11, _), (10, _), (6, _), (3, _), (0, _)]) rfl ?_; intro a hf
        refine rd hf rfl (yl_pickFF rfl hgT1 rfl) rfl rfl ?_; intro a hf
        refine plan_nil ?_
        replace hf := hf.sel [29, 6, 3, 0] (l' := [(29, _), (6, _), (3, _), (0, _)]) rfl
        refine wp_ifFF hf rfl (rfl) ?_
        refine wpIn_exit ?_
        refine then_exit ?_
        refine then_exit ?_
        refine inBlock_hit ?_
        exact ⟨k, _, hf.sel [6, 3, 0] rfl, ⟨hkp, rfl⟩, hT⟩
    · clear hf0 hf hT; rintro k a w L hf ⟨hkp, rfl⟩ hT
      replace hf : Fr _ [(6, .int .i64 (k : Nat)), (3, _), (0, _)] _ _ := hf
      refine wpIn_seq ?_
      refine wpIn_seq ?_
      -- region 6: its branches meet again
      have hf0 := hf.sel [6, 3, 0] (l' := [(6, _), (3, _), (0, _)]) rfl
      refine wp_join hf0 hT 51 (.bool (decide (r.id ∈ rids xs))) ?_ ?_
      · clear hf0
        -- region 6 (ref.go:166)
        refine wp_reg ([]) ([_, _, _] ++ rs) [(0, true), (1, true), (2, true), (3, true), (4, true), (5, true), (6, true), (7, true), (8, true), (9, true), (10, true), (11, true), (12, true), (13, true), (14, true), (15, true), (16, true), (17, true), (18, true), (19, true)] mixed (by kernel_rfl) (hT) ?_; intro w hT
        refine rd hf rfl (yl_move rfl) rfl rfl ?_; intro a hf
        refine rd hf rfl (yl_move rfl) rfl rfl ?_; intro a hf
        refine rd hf rfl (yl_nil rfl) rfl rfl ?_; intro a hf
        refine rd hf rfl (yl_faddr Try.underlying75 rfl rfl sz_70 (k := 0) rfl) rfl rfl ?_; intro a hf
        refine rd hf rfl (yl_load Try.underlying70 rfl rfl ⟨_, .tail _ (.head _), _, _, _, pt_self _ _, rfl⟩) rfl rfl ?_; intro a hf
        refine rd hf rfl (yl_lenE rfl Try.underlying70 (hS.els (.tail _ (.tail _ (.head _))))) rfl rfl ?_; intro a hf
        refine rd hf rfl (yl_cmp rfl rfl rfl) rfl rfl ?_; intro a hf
        refine rd hf rfl (yl_move rfl) rfl rfl ?_; intro a hf
        by_cases hg7 : ((k : Nat) : Int) < (xs.length : Nat)
        · have hgT2 : decide (((k : Nat) : Int) < (xs.length : Nat)) = true := by simpa using hg7
          have hltk : k < xs.length := by omega
          have hj : xs[k]? = some xs[k] := List.getElem?_eq_getElem hltk
          refine rdT hf rfl rfl rfl rfl (by first | exact hgT2 | simp [hgT2]) (yl_move rfl) rfl (l' := [(40, _), (39, _), (38, _), (37, _), (36, _), (35, _), (34, _), (33, _), (32, _), (6, _), (3, _), (0, _)]) rfl ?_; intro a hf
          refine rdT hf rfl rfl rfl rfl (by first | exact hgT2 | simp [hgT2]) (yl_nil rfl) rfl (l' := [(41, _), (40, _), (39, _), (38, _), (37, _), (36, _), (35, _), (34, _), (33, _), (32, _), (6, _), (3, _), (0, _)]) rfl ?_; intro a hf
          refine rdT hf rfl rfl rfl rfl (by first | exact hgT2 | simp [hgT2]) (yl_faddr Try.underlying75 rfl rfl sz_70 (k := 0) rfl) rfl (l' := [(42, _), (41, _), (40, _), (39, _), (38, _), (37, _), (36, _), (35, _), (34, _), (33, _), (32, _), (6, _), (3, _), (0, _)]) rfl ?_; intro a hf
          refine rdT hf rfl rfl rfl rfl (by first | exact hgT2 | simp [hgT2]) (yl_load Try.underlying70 rfl rfl ⟨_, .tail _ (.head _), _, _, _, pt_self _ _, rfl⟩) rfl (l' := [(43, _), (42, _), (41, _), (40, _), (39, _), (38, _), (37, _), (36, _), (35, _), (34, _), (33, _), (32, _), (6, _), (3, _), (0, _)]) rfl ?_; intro a hf
          refine rdT hf rfl rfl rfl rfl (by first | exact hgT2 | simp [hgT2]) (yl_move rfl) rfl (l' := [(44, _), (43, _), (42, _), (41, _), (40, _), (39, _), (38, _), (37, _), (36, _), (35, _), (34, _), (33, _), (32, _), (6, _), (3, _), (0, _)]) rfl ?_; intro a hf
          refine rdT hf rfl rfl rfl rfl (by first | exact hgT2 | simp [hgT2]) (yl_indexE rfl rfl Try.underlying70 sz_31 (hS.els (.tail _ (.tail _ (.head _)))) (by omega) (by omega)) rfl (l' := [(45, _), (44, _), (43, _), (42, _), (41, _), (40, _), (39, _), (38, _), (37, _), (36, _), (35, _), (34, _), (33, _), (32, _), (6, _), (3, _), (0, _)]) rfl ?_; intro a hf
          refine rdT hf rfl rfl rfl rfl (by first | exact hgT2 | simp [hgT2]) (yl_faddr Try.underlying31 rfl rfl sz_2 rfl) rfl (l' := [(46, _), (45, _), (44, _), (43, _), (42, _), (41, _), (40, _), (39, _), (38, _), (37, _), (36, _), (35, _), (34, _), (33, _), (32, _), (6, _), (3, _), (0, _)]) rfl ?_; intro a hf
          refine rdT hf rfl rfl rfl rfl (by first | exact hgT2 | simp [hgT2]) (yl_load Try.underlying2 rfl rfl ((hS.els (.tail _ (.tail _ (.head _)))).cell hj (f := 0) rfl)) rfl (l' := [(47, _), (46, _), (45, _), (44, _), (43, _), (42, _), (41, _), (40, _), (39, _), (38, _), (37, _), (36, _), (35, _), (34, _), (33, _), (32, _), (6, _), (3, _), (0, _)]) rfl ?_; intro a hf
          refine rdT hf rfl rfl rfl rfl (by first | exact hgT2 | simp [hgT2]) (yl_faddr Try.underlying31 rfl rfl sz_2 (k := 0) rfl) rfl (l' := [(48, _), (47, _), (46, _), (45, _), (44, _), (43, _), (42, _), (41, _), (40, _), (39, _), (38, _), (37, _), (36, _), (35, _), (34, _), (33, _), (32, _), (6, _), (3, _), (0, _)]) rfl ?_; intro a hf
          refine rdT hf rfl rfl rfl rfl (by first | exact hgT2 | simp [hgT2]) (yl_load Try.underlying2 rfl rfl ⟨_, .head _, _, _, _, pt_self _ _, rfl⟩) rfl (l' := [(49, _), (48, _), (47, _), (46, _), (45, _), (44, _), (43, _), (42, _), (41, _), (40, _), (39, _), (38, _), (37, _), (36, _), (35, _), (34, _), (33, _), (32, _), (6, _), (3, _), (0, _)]) rfl ?_; intro a hf
          refine rdT hf rfl rfl rfl rfl (by first | exact hgT2 | simp [hgT2]) (yl_cmp rfl rfl rfl) rfl (l' := [(50, _), (49, _), (48, _), (47, _), (46, _), (45, _), (44, _), (43, _), (42, _), (41, _), (40, _), (39, _), (38, _), (37, _), (36, _), (35, _), (34, _), (33, _), (32, _), (6, _), (3, _), (0, _)]) rfl ?_; intro a hf
          refine rd hf rfl (yl_pickTT rfl hgT2 rfl) rfl rfl ?_; intro a hf
          refine plan_nil ?_
          exact ⟨(hf.sel [51, 6, 3, 0] (l' := [(51, _), (6, _), (3, _), (0, _)]) rfl).fix (congrArg Value.bool (decide_eq_decide.2 (by rw [← at_pos hI.srt r]; subst hkp; exact ⟨fun h => ⟨hltk, h⟩, fun ⟨_, h⟩ => h⟩))), hT⟩
        · have hgT2 : decide (((k : Nat) : Int) < (xs.length : Nat)) = false := by simpa using hg7
          refine rdF hf rfl rfl rfl rfl (by first | exact hgT2 | simp [hgT2]) rfl (l' := [(40, _), (39, _), (38, _), (37, _), (36, _), (35, _), (34, _), (33, _), (32, _), (6, _), (3, _), (0, _)]) rfl ?_; intro a hf
          refine rdF hf rfl rfl rfl rfl (by first | exact hgT2 | simp [hgT2]) rfl (l' := [(41, _), (40, _), (39, _), (38, _), (37, _), (36, _), (35, _), (34, _), (33, _), (32, _), (6, _), (3, _), (0, _)]) rfl ?_; intro a hf
          refine rdF hf rfl rfl rfl rfl (by first | exact hgT2 | simp [hgT2]) rfl (l' := [(42, _), (41, _), (40, _), (39, _), (38, _), (37, _), (36, _), (35, _), (34, _), (33, _), (32, _), (6, _), (3, _), (0, _)]) rfl ?_; intro a hf
          refine rdF hf rfl rfl rfl rfl (by first | exact hgT2 | simp [hgT2]) rfl (l' := [(43, _), (42, _), (41, _), (40, _), (39, _), (38, _), (37, _), (36, _), (35, _), (34, _), (33, _), (32, _), (6, _), (3, _), (0, _)]) rfl ?_; intro a hf
          refine rdF hf rfl rfl rfl rfl (by first | exact hgT2 | simp [hgT2]) rfl (l' := [(44, _), (43, _), (42, _), (41, _), (40, _), (39, _), (38, _), (37, _), (36, _), (35, _), (34, _), (33, _), (32, _), (6, _), (3, _), (0, _)]) rfl ?_; intro a hf
          refine rdF hf rfl rfl rfl rfl (by first | exact hgT2 | simp [hgT2]) rfl (l' := [(45, _), (44, _), (43, _), (42, _), (41, _), (40, _), (39, _), (38, _), (37, _), (36, _), (35, _), (34, _), (33, _), (32, _), (6, _), (3, _), (0, _)]) rfl ?_; intro a hf
          refine rdF hf rfl rfl rfl rfl (by first | exact hgT2 | simp [hgT2]) rfl (l' := [(46, _), (45, _), (44, _), (43, _), (42, _), (41, _), (40, _), (39, _), (38, _), (37, _), (36, _), (35, _), (34, _), (33, _), (32, _), (6, _), (3, _), (0, _)]) rfl ?_; intro a hf
          refine rdF hf rfl rfl rfl rfl (by first | exact hgT2 | simp [hgT2]) rfl (l' := [(47, _), (46, _), (45, _), (44, _), (43, _), (42, _), (41, _), (40, _), (39, _), (38, _), (37, _), (36, _), (35, _), (34, _), (33, _), (32, _), (6, _), (3, _), (0, _)]) rfl ?_; intro a hf
          refine rdF hf rfl rfl rfl rfl (by first | exact hgT2 | simp [hgT2]) rfl (l' := [(48, _), (47, _), (46, _), (45, _), (44, _), (43, _), (42, _), (41, _), (40, _), (39, _), (38, _), (37, _), (36, _), (35, _), (34, _), (33, _), (32, _), (6, _), (3, _), (0, _)]) rfl ?_; intro a hf
          refine rdF hf rfl rfl rfl rfl (by first | exact hgT2 | simp [hgT2]) rfl (l' := [(49, _), (48, _), (47, _), (46, _), (45, _), (44, _), (43, _), (42, _), (41, _), (40, _), (39, _), (38, _), (37, _), (36, _), (35, _), (34, _), (33, _), (32, _), (6, _), (3, _), (0, _)]) rfl ?_; intro a hf
          refine rdF hf rfl rfl rfl rfl (by first | exact hgT2 | simp [hgT2]) rfl (l' := [(50, _), (49, _), (48, _), (47, _), (46, _), (45, _), (44, _), (43, _), (42, _), (41, _), (40, _), (39, _), (38, _), (37, _), (36, _), (35, _), (34, _), (33, _), (32, _), (6, _), (3, _), (0, _)]) rfl ?_; intro a hf
          refine rd hf rfl (yl_pickFF rfl hgT2 rfl) rfl rfl ?_; intro a hf
          refine plan_nil ?_
          exact ⟨(hf.sel [51, 6, 3, 0] (l' := [(51, _), (6, _), (3, _), (0, _)]) rfl).fix (congrArg Value.bool (Eq.symm (decide_eq_false (by rw [← at_pos hI.srt r]; subst hkp; exact fun ⟨h, _⟩ => by omega)))), hT⟩
      · clear hf hf0 hT; intro a w hf hT
        refine wp_ifd hf rfl (fun hin => ?_) (fun hin => ?_)
        · -- then
          refine wpIn_seq ?_
          -- region 7 (ref.go:167)
          refine wp_reg ([]) ([_, _, _] ++ rs) [(0, true), (1, true)] mixed (by kernel_rfl) (hT) ?_; intro w hT
          refine rd hf rfl (yl_assign rfl) rfl rfl ?_; intro a hf
          refine rd hf rfl (yl_assign rfl) rfl rfl ?_; intro a hf
          refine plan_nil ?_
          replace hf := hf.sel [5, 4] (l' := [(5, _), (4, _)]) rfl
          refine wpIn_ret ?_
          exact body_ret hf (L := [_, _]) ((hT.brings [0]).tail) rfl rfl ⟨xs, false, 0, _, rfl, ⟨lv, X, rfl, hS⟩, rfl, .inr (.inl ⟨hrok, hin, rfl, rfl, rfl⟩)⟩
        · -- else
          refine wpIn_skip ?_
          refine wpIn_seq ?_
          refine wpIn_seq ?_
          -- region 8 (ref.go:169)
          refine wp_reg ([]) ([_, _, _] ++ rs) [(0, true), (1, true), (2, true), (3, true), (4, true), (5, true)] mixed (by kernel_rfl) (hT) ?_; intro w hT
          refine rd hf rfl (yl_move rfl) rfl rfl ?_; intro a hf
          refine rd hf rfl (yl_nil rfl) rfl rfl ?_; intro a hf
          refine rd hf rfl (yl_faddr Try.underlying75 rfl rfl sz_70 (k := 0) rfl) rfl rfl ?_; intro a hf
          refine rd hf rfl (yl_load Try.underlying70 rfl rfl ⟨_, .tail _ (.head _), _, _, _, pt_self _ _, rfl⟩) rfl rfl ?_; intro a hf
          refine rd hf rfl (yl_lenE rfl Try.underlying70 (hS.els (.tail _ (.tail _ (.head _))))) rfl rfl ?_; intro a hf
          refine rd hf rfl (yl_cmp rfl rfl rfl) rfl rfl ?_; intro a hf
          refine plan_nil ?_
          replace hf := hf.sel [57, 6, 3, 0] (l' := [(57, _), (6, _), (3, _), (0, _)]) rfl
          refine wp_ifd hf rfl (fun hfull => ?_) (fun hfull => ?_)
          · -- then
            refine wpIn_seq ?_
            -- region 9 (ref.go:170)
            refine wp_reg ([]) ([_, _, _] ++ rs) [(0, true), (1, true)] mixed (by kernel_rfl) (hT) ?_; intro w hT
            refine rd hf rfl (yl_assign rfl) rfl rfl ?_; intro a hf
            refine rd hf rfl (yl_assign rfl) rfl rfl ?_; intro a hf
            refine plan_nil ?_
            replace hf := hf.sel [5, 4] (l' := [(5, _), (4, _)]) rfl
            refine wpIn_ret ?_
            exact body_ret hf (L := [_, _]) ((hT.brings [0]).tail) rfl rfl ⟨xs, false, 11, _, rfl, ⟨lv, X, rfl, hS⟩, rfl, .inr (.inr (.inl ⟨hrok, hin, by omega, rfl, rfl, rfl⟩))⟩
          · -- else
            have hlt256 : xs.length < 256 := by omega
            refine wpIn_skip ?_
            refine wpIn_seq ?_
            replace hT := hT.bring 2
            replace hT := hT.bring 2
            have hf0 := hf.sel [] (l' := []) rfl
            refine wp_cut (σ := Value) (L0 := [_, _]) (R := [_] ++ rs) hf0 hT (fun q => []) (fun q L => ∃ X, Sl encRec 31 q (insI xs r) X ∧ L = [pt b (.cells #[q] 75), X]) ?_ ?_
            · clear hf0
              -- region 10 (ref.go:172)
              refine wp_regT ([]) ([_, _, _] ++ rs) (.op 0 true (.op 2 true (.op 3 true (.op 4 true (.op 5 true (.op 6 true (.op 7 true (.op 9 true (.op 12 true (.op 13 true (.op 14 true (.op 15 true (.op 16 true (.op 17 true (.or (.op 1 false (.or (.fin [(8, false), (10, false), (11, false), (18, false), (19, true), (20, true), (21, false)]) (.fin [(10, false), (8, false), (11, false), (18, false), (19, true), (20, true), (21, false)]))) (.fin [(10, false), (1, false), (8, false), (11, false), (18, false), (19, true), (20, true), (21, false)])))))))))))))))) mixed (by kernel_rfl) (hT) ?_; intro w hT
              refine planT_op ?_
              refine rd hf rfl (yl_move rfl) rfl rfl ?_; intro a hf
              refine plan_go hT.allR ?_
              refine planT_op ?_
              refine rd hf rfl (yl_move rfl) rfl rfl ?_; intro a hf
              refine plan_go hT.allR ?_
              refine planT_op ?_
              refine rd hf rfl (yl_nil rfl) rfl rfl ?_; intro a hf
              refine plan_go hT.allR ?_
              refine planT_op ?_
              refine rd hf rfl (yl_faddr Try.underlying75 rfl rfl sz_70 (k := 0) rfl) rfl rfl ?_; intro a hf
              refine plan_go hT.allR ?_
              refine planT_op ?_
              refine rd hf rfl (yl_load Try.underlying70 rfl rfl ⟨_, .head _, _, _, _, pt_self _ _, rfl⟩) rfl rfl ?_; intro a hf
              refine plan_go hT.allR ?_
              refine planT_op ?_
              refine rd hf rfl (yl_move rfl) rfl rfl ?_; intro a hf
              refine plan_go hT.allR ?_
              refine planT_op ?_
              refine rd hf rfl (yl_slice (L := 0) (H := k) (A := A0) (c := c0) (congrArg some hv) Try.underlying70 sz_31 rfl (idxI rfl) (by omega) (by omega)) rfl rfl ?_; intro a hf
              refine plan_go hT.allR ?_
              refine planT_op ?_
              refine rd hf rfl (yl_loadB Try.underlying31 rfl sz_31 (vs := r.cells) (.tail _ (.tail _ (.head _))) rfl (pt_self _ _) rfl rfl) rfl rfl ?_; intro a hf
              refine plan_go hT.allR ?_
              refine planT_op ?_
              refine rd hf rfl (yl_move rfl) rfl rfl ?_; intro a hf
              refine plan_go hT.allR ?_
              refine planT_op ?_
              refine rd hf rfl (yl_nil rfl) rfl rfl ?_; intro a hf
              refine plan_go hT.allR ?_
              refine planT_op ?_
              refine rd hf rfl (yl_faddr Try.underlying75 rfl rfl sz_70 (k := 0) rfl) rfl rfl ?_; intro a hf
              refine plan_go hT.allR ?_
              refine planT_op ?_
              refine rd hf rfl (yl_load Try.underlying70 rfl rfl ⟨_, .head _, _, _, _, pt_self _ _, rfl⟩) rfl rfl ?_; intro a hf
              refine plan_go hT.allR ?_
              refine planT_op ?_
              refine rd hf rfl (yl_move rfl) rfl rfl ?_; intro a hf
              refine plan_go hT.allR ?_
              refine planT_op ?_
              refine rd hf rfl (yl_slice (L := k) (H := xs.length) (A := A0) (c := c0) (congrArg some hv) Try.underlying70 sz_31 (idxI rfl) rfl (by omega) (by omega)) rfl rfl ?_; intro a hf
              refine plan_go hT.allR ?_
              refine planT_or ?_ ?_
              · skip
                refine planT_op ?_
                refine ef hf hT rfl rfl (ef_buildSlice0 (E := encRec) Try.underlying70 zs_31) rfl (l' := [(75, _), (74, _), (73, _), (72, _), (71, _), (70, _), (67, _), (65, _), (64, _), (63, _), (62, _), (61, _), (60, _), (58, _), (57, _), (6, _), (3, _), (0, _)]) rfl ?_; rintro a w e0 L ⟨b2, p1, hvp1, hp1, rfl⟩ hf hT
                refine plan_go hT.allR ?_
                refine planT_or ?_ ?_
                · skip
                  refine planT_fin ?_
                  refine ef hf hT rfl rfl (ef_append (E := encRec) (L := []) rfl rfl Try.underlying70 zb_31 rfl hp1 (hSv.sub (lo := 0) (hi := k) (.tail _ (.tail _ (.head _))) (Nat.zero_le _) (by omega)) (by simp; omega) (by simp [maxLen]; omega)) rfl (l' := [(59, _), (75, _), (74, _), (73, _), (72, _), (71, _), (70, _), (67, _), (65, _), (64, _), (63, _), (62, _), (61, _), (60, _), (58, _), (57, _), (6, _), (3, _), (0, _)]) rfl ?_; rintro a w e1 L ⟨X1, hS1, rfl⟩ hf hT
                  refine ef hf hT rfl rfl (ef_buildSlice (E := encRec) (xs := [r]) rfl rfl Try.underlying70 zs_31 rfl (by decide) rfl (by decide)) rfl (l' := [(66, _), (59, _), (75, _), (74, _), (73, _), (72, _), (71, _), (70, _), (67, _), (65, _), (64, _), (63, _), (62, _), (61, _), (60, _), (58, _), (57, _), (6, _), (3, _), (0, _)]) rfl ?_; rintro a w one L ⟨b3, p2, hvp2, hp2, rfl⟩ hf hT
                  replace hT : Tot _ _ ([_, _] ++ ([_, _, _] ++ rs)) := hT.bring 1
                  refine ef hf hT rfl rfl (ef_append (E := encRec) (L := [_]) rfl rfl Try.underlying70 zb_31 rfl hS1 (hp2.els (.tail _ (.head _))) (by simp; omega) (by simp [maxLen]; omega)) rfl (l' := [(68, _), (66, _), (59, _), (75, _), (74, _), (73, _), (72, _), (71, _), (70, _), (67, _), (65, _), (64, _), (63, _), (62, _), (61, _), (60, _), (58, _), (57, _), (6, _), (3, _), (0, _)]) rfl ?_; rintro a w e2 L ⟨X2, hS2, rfl⟩ hf hT
                  refine ef hf hT rfl rfl (ef_append (E := encRec) (L := [_]) rfl rfl Try.underlying70 zb_31 rfl hS2 (hSv.sub (lo := k) (hi := xs.length) (.tail _ (.tail _ (.tail _ (.head _)))) (by omega) (Nat.le_refl _)) (by simp; omega) (by simp [maxLen]; omega)) rfl (l' := [(69, _), (68, _), (66, _), (59, _), (75, _), (74, _), (73, _), (72, _), (71, _), (70, _), (67, _), (65, _), (64, _), (63, _), (62, _), (61, _), (60, _), (58, _), (57, _), (6, _), (3, _), (0, _)]) rfl ?_; rintro a w e3 L ⟨X3, hS3, rfl⟩ hf hT
                  refine rd hf rfl (yl_nil rfl) rfl rfl ?_; intro a hf
                  refine rd hf rfl (yl_faddr Try.underlying75 rfl rfl sz_70 (k := 0) rfl) rfl rfl ?_; intro a hf
                  replace hT : Tot _ _ ([_, _, _] ++ ([_, _] ++ rs)) := hT.bring 2
                  refine efS_last hf hT rfl rfl (by kernel_rfl) (ef_store rfl rfl sz_70 hS3.one rfl) ?_; rintro w L rfl hT
                  replace hf := hf.sel [] (l' := []) rfl
                  exact ⟨e3, _, hf.sel [] rfl, ⟨_, by rw [← insI_eq xs r hkp]; exact hS3, rfl⟩, (hT.brings [3, 3]).tail.tail⟩
                · skip
                  refine planT_fin ?_
                  refine ef hf hT rfl rfl (ef_buildSlice (E := encRec) (xs := [r]) rfl rfl Try.underlying70 zs_31 rfl (by decide) rfl (by decide)) rfl (l' := [(59, _), (75, _), (74, _), (73, _), (72, _), (71, _), (70, _), (67, _), (65, _), (64, _), (63, _), (62, _), (61, _), (60, _), (58, _), (57, _), (6, _), (3, _), (0, _)]) rfl ?_; rintro a w one L ⟨b4, p3, hvp3, hp3, rfl⟩ hf hT
                  replace hT : Tot _ _ ([_, _] ++ ([_, _, _] ++ rs)) := hT.bring 1
                  refine ef hf hT rfl rfl (ef_append (E := encRec) (L := [_]) rfl rfl Try.underlying70 zb_31 rfl hp1 (hSv.sub (lo := 0) (hi := k) (.tail _ (.tail _ (.tail _ (.head _)))) (Nat.zero_le _) (by omega)) (by simp; omega) (by simp [maxLen]; omega)) rfl (l' := [(68, _), (59, _), (75, _), (74, _), (73, _), (72, _), (71, _), (70, _), (67, _), (65, _), (64, _), (63, _), (62, _), (61, _), (60, _), (58, _), (57, _), (6, _), (3, _), (0, _)]) rfl ?_; rintro a w e1 L ⟨X4, hS4, rfl⟩ hf hT
                  refine ef hf hT rfl rfl (ef_append (E := encRec) (L := [_]) rfl rfl Try.underlying70 zb_31 rfl hS4 (hp3.els (.tail _ (.head _))) (by simp; omega) (by simp [maxLen]; omega)) rfl (l' := [(66, _), (68, _), (59, _), (75, _), (74, _), (73, _), (72, _), (71, _), (70, _), (67, _), (65, _), (64, _), (63, _), (62, _), (61, _), (60, _), (58, _), (57, _), (6, _), (3, _), (0, _)]) rfl ?_; rintro a w e2 L ⟨X5, hS5, rfl⟩ hf hT
                  refine ef hf hT rfl rfl (ef_append (E := encRec) (L := [_]) rfl rfl Try.underlying70 zb_31 rfl hS5 (hSv.sub (lo := k) (hi := xs.length) (.tail _ (.tail _ (.tail _ (.head _)))) (by omega) (Nat.le_refl _)) (by simp; omega) (by simp [maxLen]; omega)) rfl (l' := [(69, _), (66, _), (68, _), (59, _), (75, _), (74, _), (73, _), (72, _), (71, _), (70, _), (67, _), (65, _), (64, _), (63, _), (62, _), (61, _), (60, _), (58, _), (57, _), (6, _), (3, _), (0, _)]) rfl ?_; rintro a w e3 L ⟨X6, hS6, rfl⟩ hf hT
                  refine rd hf rfl (yl_nil rfl) rfl rfl ?_; intro a hf
                  refine rd hf rfl (yl_faddr Try.underlying75 rfl rfl sz_70 (k := 0) rfl) rfl rfl ?_; intro a hf
                  replace hT : Tot _ _ ([_, _, _] ++ ([_, _] ++ rs)) := hT.bring 2
                  refine efS_last hf hT rfl rfl (by kernel_rfl) (ef_store rfl rfl sz_70 hS6.one rfl) ?_; rintro w L rfl hT
                  replace hf := hf.sel [] (l' := []) rfl
                  exact ⟨e3, _, hf.sel [] rfl, ⟨_, by rw [← insI_eq xs r hkp]; exact hS6, rfl⟩, (hT.brings [3, 3]).tail.tail⟩
              · skip
                refine planT_fin ?_
                refine ef hf hT rfl rfl (ef_buildSlice (E := encRec) (xs := [r]) rfl rfl Try.underlying70 zs_31 rfl (by decide) rfl (by decide)) rfl (l' := [(75, _), (74, _), (73, _), (72, _), (71, _), (70, _), (67, _), (65, _), (64, _), (63, _), (62, _), (61, _), (60, _), (58, _), (57, _), (6, _), (3, _), (0, _)]) rfl ?_; rintro a w one L ⟨b5, p4, hvp4, hp4, rfl⟩ hf hT
                refine ef hf hT rfl rfl (ef_buildSlice0 (E := encRec) Try.underlying70 zs_31) rfl (l' := [(68, _), (75, _), (74, _), (73, _), (72, _), (71, _), (70, _), (67, _), (65, _), (64, _), (63, _), (62, _), (61, _), (60, _), (58, _), (57, _), (6, _), (3, _), (0, _)]) rfl ?_; rintro a w e0 L ⟨b6, p5, hvp5, hp5, rfl⟩ hf hT
                refine ef hf hT rfl rfl (ef_append (E := encRec) (L := [_]) rfl rfl Try.underlying70 zb_31 rfl hp5 (hSv.sub (lo := 0) (hi := k) (.tail _ (.tail _ (.tail _ (.head _)))) (Nat.zero_le _) (by omega)) (by simp; omega) (by simp [maxLen]; omega)) rfl (l' := [(59, _), (68, _), (75, _), (74, _), (73, _), (72, _), (71, _), (70, _), (67, _), (65, _), (64, _), (63, _), (62, _), (61, _), (60, _), (58, _), (57, _), (6, _), (3, _), (0, _)]) rfl ?_; rintro a w e1 L ⟨X7, hS7, rfl⟩ hf hT
                refine ef hf hT rfl rfl (ef_append (E := encRec) (L := [_]) rfl rfl Try.underlying70 zb_31 rfl hS7 (hp4.els (.tail _ (.head _))) (by simp; omega) (by simp [maxLen]; omega)) rfl (l' := [(66, _), (59, _), (68, _), (75, _), (74, _), (73, _), (72, _), (71, _), (70, _), (67, _), (65, _), (64, _), (63, _), (62, _), (61, _), (60, _), (58, _), (57, _), (6, _), (3, _), (0, _)]) rfl ?_; rintro a w e2 L ⟨X8, hS8, rfl⟩ hf hT
                refine ef hf hT rfl rfl (ef_append (E := encRec) (L := [_]) rfl rfl Try.underlying70 zb_31 rfl hS8 (hSv.sub (lo := k) (hi := xs.length) (.tail _ (.tail _ (.tail _ (.head _)))) (by omega) (Nat.le_refl _)) (by simp; omega) (by simp [maxLen]; omega)) rfl (l' := [(69, _), (66, _), (59, _), (68, _), (75, _), (74, _), (73, _), (72, _), (71, _), (70, _), (67, _), (65, _), (64, _), (63, _), (62, _), (61, _), (60, _), (58, _), (57, _), (6, _), (3, _), (0, _)]) rfl ?_; rintro a w e3 L ⟨X9, hS9, rfl⟩ hf hT
                refine rd hf rfl (yl_nil rfl) rfl rfl ?_; intro a hf
                refine rd hf rfl (yl_faddr Try.underlying75 rfl rfl sz_70 (k := 0) rfl) rfl rfl ?_; intro a hf
                replace hT : Tot _ _ ([_, _, _] ++ ([_, _] ++ rs)) := hT.bring 2
                refine efS_last hf hT rfl rfl (by kernel_rfl) (ef_store rfl rfl sz_70 hS9.one rfl) ?_; rintro w L rfl hT
                replace hf := hf.sel [] (l' := []) rfl
                exact ⟨e3, _, hf.sel [] rfl, ⟨_, by rw [← insI_eq xs r hkp]; exact hS9, rfl⟩, (hT.brings [3, 3]).tail.tail⟩
            · clear hf0 hf hT; rintro q a w L hf ⟨X2, hS2, rfl⟩ hT
              replace hf : Fr _ [] _ _ := hf
              refine wpIn_seq ?_
              -- region 11 (ref.go:173)
              refine wp_reg ([]) ([_, _, _] ++ rs) [(0, true), (1, true)] mixed (by kernel_rfl) (hT) ?_; intro w hT
              refine rd hf rfl (yl_assign rfl) rfl rfl ?_; intro a hf
              refine rd hf rfl (yl_assign rfl) rfl rfl ?_; intro a hf
              refine plan_nil ?_
              refine wpIn_ret ?_
              exact body_ret hf (L := [_, _]) ((hT.brings [2]).tail) rfl rfl ⟨_, true, 0, _, rfl, ⟨q, X2, rfl, hS2⟩, rfl, .inr (.inr (.inr ⟨hrok, hin, hlt256, rfl, rfl, rfl⟩))⟩
end Go.Proofs.Ytjhbgciocffihaa
