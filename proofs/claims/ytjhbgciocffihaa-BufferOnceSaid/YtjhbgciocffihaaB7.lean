/- Plain words on a buffer's turns: what Put does. -/
import Derived.Test.YtjhbgciocffihaaB6
set_option linter.unusedVariables false
set_option linter.unusedSimpArgs false
namespace Go.Proofs.Ytjhbgciocffihaa
/-- a comes ahead of b (is more important). -/
def lt (a b : Rec) : Prop := b.cls < a.cls ∨ (b.cls = a.cls ∧ (b.made < a.made ∨ (b.made = a.made ∧ a.id < b.id)))
theorem cmpR_lt (a b : Rec) : cmpR a b < 0 ↔ lt a b := by
  unfold lt cmpR
  simp only [orI, sgn]
  repeat' split
  all_goals omega
theorem cmpR_gt (a b : Rec) : 0 < cmpR a b ↔ lt b a := by
  unfold lt cmpR
  simp only [orI, sgn]
  repeat' split
  all_goals omega
theorem lt_trans {a b c : Rec} (h1 : lt a b) (h2 : lt b c) : lt a c := by unfold lt at *; omega
theorem lt_total {a b : Rec} (h : a.id ≠ b.id) (h1 : ¬ lt a b) : lt b a := by unfold lt at *; omega
theorem lt_irrefl (a : Rec) : ¬ lt a a := by unfold lt; omega
def Sorted (L : List Hld) : Prop := L.Pairwise fun a b => lt a.r b.r
def sumB (L : List Hld) : Int := (L.map Hld.bytes).sum
structure Inv (s : BS) : Prop where
  nd : (ids s.L).Nodup
  ok : ∀ h ∈ s.L, h.r.Ok
  us : s.used = sumB s.L
  cp : 1 ≤ s.cap ∧ s.cap ≤ 16777216
  srt : Sorted s.L
def new (r : Rec) : Hld := ⟨r, false, -1⟩
def ltb (r : Rec) (h : Hld) : Bool := decide (cmpR h.r r < 0)
def ins (L : List Hld) (r : Rec) : List Hld := L.takeWhile (ltb r) ++ new r :: L.dropWhile (ltb r)
def pos (L : List Hld) (r : Rec) : Nat := (L.takeWhile (ltb r)).length
theorem take_pos (L : List Hld) (r : Rec) : L.take (pos L r) = L.takeWhile (ltb r) := by
  unfold pos
  have h := List.takeWhile_append_dropWhile (p := ltb r) (l := L)
  conv => lhs; rw [← h]
  rw [show ((L.takeWhile (ltb r) ++ L.dropWhile (ltb r)).takeWhile (ltb r)).length = (L.takeWhile (ltb r)).length by rw [h], List.take_left]
theorem drop_pos (L : List Hld) (r : Rec) : L.drop (pos L r) = L.dropWhile (ltb r) := by
  unfold pos
  have h := List.takeWhile_append_dropWhile (p := ltb r) (l := L)
  conv => lhs; rw [← h]
  rw [show ((L.takeWhile (ltb r) ++ L.dropWhile (ltb r)).takeWhile (ltb r)).length = (L.takeWhile (ltb r)).length by rw [h], List.drop_left]
theorem pos_le (L : List Hld) (r : Rec) : pos L r ≤ L.length := by
  have h := congrArg List.length (take_pos L r)
  simp only [List.length_take] at h
  show (L.takeWhile (ltb r)).length ≤ _
  omega
theorem ins_ids (L : List Hld) (r : Rec) : ids (ins L r) = (ids L).take (pos L r) ++ [r.id] ++ (ids L).drop (pos L r) := by
  simp only [ids, ins, List.map_append, List.map_cons, ← take_pos, ← drop_pos, List.map_take, List.map_drop, List.append_assoc, List.singleton_append]; rfl
theorem ins_perm (L : List Hld) (r : Rec) : (ins L r).Perm (new r :: L) := by
  unfold ins
  have h := List.takeWhile_append_dropWhile (p := ltb r) (l := L)
  conv => rhs; rw [← h]
  exact List.perm_middle
theorem pos_part {L : List Hld} (hs : Sorted L) (r : Rec) : ∀ i (hi : i < L.length), (cmpR L[i].r r < 0 ↔ i < pos L r) := by
  induction L with
  | nil => intro i hi; exact absurd hi (by simp)
  | cons x L ih =>
    intro i hi
    obtain ⟨h1, h2⟩ := List.pairwise_cons.1 hs
    by_cases hx : cmpR x.r r < 0
    · have hp : pos (x :: L) r = pos L r + 1 := by simp [pos, List.takeWhile_cons, ltb, hx]
      cases i with
      | zero => simp [hp, hx]
      | succ i => rw [hp]; simpa using ih h2 i (by simpa using hi)
    · have hp : pos (x :: L) r = 0 := by simp [pos, List.takeWhile_cons, ltb, hx]
      rw [hp]
      cases i with
      | zero => simpa using hx
      | succ i =>
        simp only [List.getElem_cons_succ, Nat.not_lt_zero, iff_false]
        intro hl
        exact hx ((cmpR_lt _ _).2 (lt_trans (h1 _ (List.getElem_mem _)) ((cmpR_lt _ _).1 hl)))
theorem mem_tw {α : Type} {p : α → Bool} {x : α} : ∀ {L : List α}, x ∈ L.takeWhile p → p x = true
  | [], h => by cases h
  | y :: L, h => by
    rw [List.takeWhile_cons] at h
    split at h
    · rcases List.mem_cons.1 h with rfl | h
      · assumption
      · exact mem_tw h
    · cases h
theorem ins_sorted {L : List Hld} (hs : Sorted L) {r : Rec} (hn : r.id ∉ ids L) : Sorted (ins L r) := by
  have hd : L.dropWhile (ltb r) = L.drop (pos L r) := (drop_pos L r).symm
  have ht : L.takeWhile (ltb r) = L.take (pos L r) := (take_pos L r).symm
  have hid : ∀ h ∈ L, h.r.id ≠ r.id := fun h hh he => hn (List.mem_map.2 ⟨h, hh, he⟩)
  have hlt : ∀ h ∈ L.takeWhile (ltb r), lt h.r r := fun h hh => (cmpR_lt _ _).1 (of_decide_eq_true (show decide (cmpR h.r r < 0) = true from mem_tw (p := ltb r) hh))
  have hge : ∀ h ∈ L.dropWhile (ltb r), lt r h.r := by
    intro h hh
    rw [hd] at hh
    obtain ⟨j, hj, rfl⟩ := List.mem_drop_iff_getElem.1 hh
    have := pos_part hs r (pos L r + j) (by omega)
    exact lt_total (hid _ (List.getElem_mem _)) (fun hl => by have := this.1 ((cmpR_lt _ _).2 hl); omega)
  unfold ins Sorted
  rw [List.pairwise_append]
  refine ⟨hs.sublist (List.takeWhile_sublist _), List.pairwise_cons.2 ⟨fun h hh => hge h hh, hs.sublist (List.dropWhile_sublist _)⟩, ?_⟩
  intro a ha b hb
  rcases List.mem_cons.1 hb with rfl | hb
  · exact hlt a ha
  · exact lt_trans (hlt a ha) (hge b hb)
theorem sumB_cons (h : Hld) (L : List Hld) : sumB (h :: L) = h.bytes + sumB L := rfl
theorem sumB_perm {L M : List Hld} (h : L.Perm M) : sumB L = sumB M := by
  induction h with
  | nil => rfl
  | cons x _ ih => rw [sumB_cons, sumB_cons, ih]
  | swap x y l => simp only [sumB_cons]; omega
  | trans _ _ h1 h2 => exact h1.trans h2
theorem bytes_rng {h : Hld} (hk : h.r.Ok) : 1 ≤ h.bytes ∧ h.bytes ≤ 16777216 := by
  unfold Hld.bytes Rec.Ok at *; split <;> omega
theorem sumB_rng {L : List Hld} (hk : ∀ h ∈ L, h.r.Ok) : (L.length : Int) ≤ sumB L ∧ sumB L ≤ 16777216 * L.length := by
  induction L with
  | nil => simp [sumB]
  | cons x L ih =>
    have h1 := ih fun h hh => hk h (List.mem_cons_of_mem _ hh)
    have h2 := bytes_rng (hk x (List.mem_cons_self ..))
    rw [sumB_cons]; simp only [List.length_cons]; omega
theorem fnd_ins {L : List Hld} {r : Rec} (hn : r.id ∉ ids L) (j : Int) : fnd (ins L r) j = if j = r.id then some (new r) else fnd L j := by
  have hL := List.takeWhile_append_dropWhile (p := ltb r) (l := L)
  have e1 : fnd L j = (fnd (L.takeWhile (ltb r)) j).or (fnd (L.dropWhile (ltb r)) j) := by
    conv => lhs; rw [← hL]
    unfold fnd; rw [List.find?_append]
  have e2 : fnd (ins L r) j = (fnd (L.takeWhile (ltb r)) j).or (fnd (new r :: L.dropWhile (ltb r)) j) := by
    unfold ins fnd; rw [List.find?_append]
  by_cases hj : j = r.id
  · subst hj
    have h0 := fnd_none.2 hn
    rw [e1] at h0
    have h1 : fnd (L.takeWhile (ltb r)) r.id = none := by cases hq : fnd (L.takeWhile (ltb r)) r.id with | none => rfl | some y => rw [hq] at h0; cases h0
    rw [e2, h1, if_pos rfl]; simp [fnd, new]
  · rw [if_neg hj, e1, e2]
    congr 1
    have : ¬ (new r).r.id = j := fun e => hj e.symm
    simp [fnd, this]
theorem Maps.ins {L : List Hld} {mr : List (Int × Rec)} {ms mt : List (Int × Int)} (h : Maps L mr ms mt) {r : Rec} (hn : r.id ∉ ids L) : Maps (Ytjhbgciocffihaa.ins L r) (upd mr r.id r) ms mt := by
  have h0 := fnd_none.2 hn
  refine ⟨fun j => ?_, fun j => ?_, fun j => ?_⟩ <;> rw [fnd_ins hn]
  · rw [assoc_upd, h.r]; by_cases hj : j = r.id <;> simp [hj, new]
  · rw [h.s]; by_cases hj : j = r.id
    · subst hj; rw [if_pos rfl, h0]; rfl
    · rw [if_neg hj]
  · rw [h.t]; by_cases hj : j = r.id
    · subst hj; rw [if_pos rfl, h0]; rfl
    · rw [if_neg hj]
def insB (s : BS) (r : Rec) : BS := { s with used := s.used + r.size, L := ins s.L r }
theorem Inv.ins {s : BS} (h : Inv s) {r : Rec} (hr : r.Ok) (hn : r.id ∉ ids s.L) : Inv (insB s r) := by
  have hp := ins_perm s.L r
  refine ⟨?_, ?_, ?_, h.cp, ins_sorted h.srt hn⟩
  · refine (List.Perm.nodup_iff (hp.map (·.r.id))).2 ?_
    exact List.nodup_cons.2 ⟨hn, h.nd⟩
  · intro x hx
    rcases List.mem_cons.1 (hp.mem_iff.1 hx) with rfl | hx
    · exact hr
    · exact h.ok x hx
  · show s.used + r.size = sumB (Ytjhbgciocffihaa.ins s.L r)
    rw [sumB_perm hp, sumB_cons, h.us]
    show _ = r.size + sumB s.L
    omega
/-! the turns after an insertion -/
def sqz (s : BS) : BS := match squeeze s.L with
  | some h => { s with used := s.used - (h.r.size - h.r.packed), L := mark s.L h.r.id }
  | none => s
def drp (s : BS) (h : Hld) : BS := { s with used := s.used - h.bytes, L := s.L.filter fun x => decide (x.r.id ≠ h.r.id) }
def Full (s : BS) : Prop := s.cap < s.used ∨ 256 < s.L.length
/-- One turn: compress, or drop the last. -/
inductive Turn (s : BS) : BS → List Int → Prop
  | sq : Full s → s.L.length ≤ 256 → (squeeze s.L).isSome = true → Turn s (sqz s) []
  | dr (h : Hld) : Full s → (s.L.length ≤ 256 → squeeze s.L = none) → s.L.getLast? = some h → Turn s (drp s h) [h.r.id]
inductive Goes (s0 : BS) : BS → List Int → Prop
  | start : Goes s0 s0 []
  | step {s s1 : BS} {d o : List Int} : Goes s0 s d → Turn s s1 o → Goes s0 s1 (d ++ o)
theorem squeeze_mem {L : List Hld} {h : Hld} (e : squeeze L = some h) : h ∈ L ∧ h.sq = true := by
  have h1 := List.mem_of_find?_eq_some e
  have h2 := List.find?_some e
  exact ⟨List.mem_reverse.1 h1, h2⟩
theorem mark_bytes {L : List Hld} (hn : (ids L).Nodup) {h : Hld} (hm : h ∈ L) (hq : h.sq = true) : sumB (mark L h.r.id) = sumB L - (h.r.size - h.r.packed) := by
  induction L with
  | nil => cases hm
  | cons x L ih =>
    simp only [ids, List.map_cons, List.nodup_cons] at hn
    have e1 : mark (x :: L) h.r.id = (if x.r.id = h.r.id then { x with small := true } else x) :: mark L h.r.id := rfl
    rw [e1, sumB_cons, sumB_cons]
    rcases List.mem_cons.1 hm with rfl | hm
    · have e2 : mark L h.r.id = L := by
        unfold mark
        conv => rhs; rw [← List.map_id L]
        refine List.map_congr_left fun y hy => ?_
        rw [if_neg (fun e => hn.1 (List.mem_map.2 ⟨y, hy, e⟩))]; rfl
      rw [e2, if_pos rfl]
      simp only [Hld.sq, Bool.and_eq_true, Bool.not_eq_true', decide_eq_true_eq] at hq
      simp only [Hld.bytes, hq.1, if_true, Bool.false_eq_true, if_false]; omega
    · have hne : ¬ x.r.id = h.r.id := fun e => hn.1 (List.mem_map.2 ⟨h, hm, e.symm⟩)
      rw [if_neg hne, ih hn.2 hm]; omega
theorem mark_rec {L : List Hld} {k : Int} : (mark L k).map (·.r) = L.map (·.r) := by
  unfold mark; rw [List.map_map]; apply List.map_congr_left; intro x _; simp only [Function.comp]; split <;> rfl
theorem mark_length (L : List Hld) (k : Int) : (mark L k).length = L.length := by simp [mark]
theorem Sorted.map {L M : List Hld} (h : Sorted L) (he : M.map (·.r) = L.map (·.r)) : Sorted M := by
  have h1 : (L.map (·.r)).Pairwise lt := List.pairwise_map.2 h
  rw [← he] at h1
  exact List.pairwise_map.1 h1
theorem Inv.sqz {s : BS} (h : Inv s) : Inv (Ytjhbgciocffihaa.sqz s) := by
  unfold Ytjhbgciocffihaa.sqz
  cases hq : squeeze s.L with
  | none => exact h
  | some x =>
    obtain ⟨h1, h2⟩ := squeeze_mem hq
    refine ⟨by rw [ids_mark]; exact h.nd, ?_, ?_, h.cp, h.srt.map mark_rec⟩
    · intro y hy
      obtain ⟨z, hz, rfl⟩ := List.mem_map.1 hy
      have := h.ok z hz
      split <;> exact this
    · show s.used - _ = sumB (mark s.L x.r.id)
      rw [mark_bytes h.nd h1 h2, h.us]
theorem filter_last {L : List Hld} (hn : (ids L).Nodup) {h : Hld} (hl : L.getLast? = some h) : (L.filter fun x => decide (x.r.id ≠ h.r.id)) = L.dropLast := by
  obtain ⟨M, rfl⟩ := List.getLast?_eq_some_iff.1 hl
  rw [List.dropLast_concat, List.filter_append]
  have : (ids (M ++ [h])) = ids M ++ [h.r.id] := by simp [ids]
  rw [this, List.nodup_append] at hn
  rw [List.filter_eq_self.2, List.filter_cons_of_neg (by simp)]
  · simp
  · intro x hx
    have := hn.2.2 x.r.id (List.mem_map.2 ⟨x, hx, rfl⟩) h.r.id (by simp)
    simpa using this
theorem drp_L {s : BS} (hI : Inv s) {h : Hld} (hl : s.L.getLast? = some h) : (drp s h).L = s.L.dropLast := filter_last hI.nd hl
theorem Inv.drp {s : BS} (hI : Inv s) {h : Hld} (hl : s.L.getLast? = some h) : Inv (Ytjhbgciocffihaa.drp s h) := by
  have e := drp_L hI hl
  have hsub : (Ytjhbgciocffihaa.drp s h).L.Sublist s.L := by rw [e]; exact List.dropLast_sublist _
  refine ⟨(hsub.map _).nodup hI.nd, fun x hx => hI.ok x (hsub.mem hx), ?_, hI.cp, hI.srt.sublist hsub⟩
  rw [e]
  obtain ⟨M, hM⟩ := List.getLast?_eq_some_iff.1 hl
  show s.used - h.bytes = _
  rw [hI.us, hM, List.dropLast_concat, sumB_perm (List.perm_append_singleton h M), sumB_cons]; omega
theorem Turn.inv {s s1 : BS} {o : List Int} (h : Turn s s1 o) (hI : Inv s) : Inv s1 := by
  cases h with
  | sq => exact hI.sqz
  | dr h _ _ hl => exact hI.drp hl
theorem Goes.inv {s0 s : BS} {d : List Int} (h : Goes s0 s d) (hI : Inv s0) : Inv s := by
  induction h with
  | start => exact hI
  | step _ h1 ih => exact h1.inv ih
def meas (s : BS) : Nat := s.L.length + (s.L.filter Hld.sq).length
theorem meas_drp {s : BS} (hI : Inv s) {h : Hld} (hl : s.L.getLast? = some h) : meas (drp s h) < meas s := by
  unfold meas
  rw [drp_L hI hl]
  obtain ⟨M, hM⟩ := List.getLast?_eq_some_iff.1 hl
  rw [hM, List.dropLast_concat, List.filter_append, List.length_append, List.length_append]
  simp; omega
theorem mark_sq_le (L : List Hld) (k : Int) : ((mark L k).filter Hld.sq).length ≤ (L.filter Hld.sq).length := by
  induction L with
  | nil => simp [mark]
  | cons x L ih =>
    have e1 : mark (x :: L) k = (if x.r.id = k then { x with small := true } else x) :: mark L k := rfl
    rw [e1]
    by_cases hx : x.r.id = k
    · rw [if_pos hx, List.filter_cons_of_neg (by simp [Hld.sq])]
      exact Nat.le_trans ih (by rw [List.filter_cons]; split <;> simp)
    · rw [if_neg hx, List.filter_cons, List.filter_cons]; split <;> simp <;> omega
theorem mark_sq {L : List Hld} {h : Hld} (hm : h ∈ L) (hq : h.sq = true) : ((mark L h.r.id).filter Hld.sq).length < (L.filter Hld.sq).length := by
  induction L with
  | nil => cases hm
  | cons x L ih =>
    have e1 : mark (x :: L) h.r.id = (if x.r.id = h.r.id then { x with small := true } else x) :: mark L h.r.id := rfl
    rw [e1]
    have hle := mark_sq_le L h.r.id
    rcases List.mem_cons.1 hm with rfl | hm
    · rw [if_pos rfl, List.filter_cons_of_neg (by simp [Hld.sq]), List.filter_cons_of_pos hq]; simp; omega
    · have := ih hm
      by_cases hx : x.r.id = h.r.id
      · rw [if_pos hx, List.filter_cons_of_neg (by simp [Hld.sq])]
        exact Nat.lt_of_lt_of_le this (by rw [List.filter_cons]; split <;> simp)
      · rw [if_neg hx, List.filter_cons, List.filter_cons]; split <;> simp <;> omega
theorem meas_sqz {s : BS} (h : (squeeze s.L).isSome = true) : meas (sqz s) < meas s := by
  obtain ⟨x, hx⟩ := Option.isSome_iff_exists.1 h
  obtain ⟨h1, h2⟩ := squeeze_mem hx
  have := mark_sq h1 h2
  simp only [meas, sqz, hx, mark_length]; omega
theorem sqz_none {s : BS} (h : squeeze s.L = none) : sqz s = s := by simp [sqz, h]
end Go.Proofs.Ytjhbgciocffihaa
