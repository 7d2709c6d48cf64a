/- The plain law of BufferKeeps. -/
import Derived.Test.YtjhbgciocffihaaB11
set_option linter.unusedVariables false
set_option linter.unusedSimpArgs false
namespace Go.Proofs.Ytjhbgciocffihaa
/-- Where branches of one region meet again. -/
theorem wp_join {P : Program} {N : Nat} {ro : Option Nat} {D : List Deferred} {Q : Exit → Act → World → Prop} {c : Code} {a : Act} {w : World} {e : Env} {l0 : List (Nat × Value)} {L1 : List Part} (hf0 : Fr N l0 D a) (hT0 : Tot e w L1) (d : Nat) (v : Value)
    (h1 : c.wpIn (Fw ro) 0 P (QN fun a w => Fr N ((d, v) :: l0) D a ∧ Tot e w L1) a w) (h2 : ∀ a w, Fr N ((d, v) :: l0) D a → Tot e w L1 → Q .normal a w) : c.wpIn (Fw ro) 0 P Q a w :=
  wpIn_mono h1 (fun ex a' w' hq => by cases ex <;> simp only [QN] at hq; exact h2 _ _ hq.1 hq.2)
theorem Fr.fix {N : Nat} {D : List Deferred} {a : Act} {d : Nat} {v v' : Value} {l : List (Nat × Value)} (h : Fr N ((d, v') :: l) D a) (hv : v' = v) : Fr N ((d, v) :: l) D a := hv ▸ h
theorem beqT {b v : Bool} (h : b = v) : (b == v) = true := by simp [h]
structure KI (c : Int) (i : Nat) (s : BS) (m : List (Int × Rec)) : Prop where
  inv : Inv s
  len : s.L.length ≤ i
  cp : s.cap = 1 + c % 1000
  all : ∀ h ∈ s.L, assoc m h.r.id = some h.r
  us : s.used ≤ s.cap
theorem sqz_rec (s : BS) : (sqz s).L.map (·.r) = s.L.map (·.r) := by unfold sqz; split; exact mark_rec; rfl
theorem Goes.recs {s0 s : BS} {d : List Int} (h : Goes s0 s d) (hI : Inv s0) : ∃ ds : List Rec, d = ds.map (·.id) ∧ s.L.map (·.r) ++ ds.reverse = s0.L.map (·.r) := by
  induction h with
  | start => exact ⟨[], rfl, by simp⟩
  | step h1 h2 ih =>
    obtain ⟨ds, rfl, hd⟩ := ih
    have hI1 := h1.inv hI
    cases h2 with
    | sq => exact ⟨ds, by simp, by rw [sqz_rec]; exact hd⟩
    | dr h _ _ hl =>
      refine ⟨ds ++ [h.r], by simp, ?_⟩
      rw [drp_L hI1 hl, ← hd]
      obtain ⟨M, hM⟩ := List.getLast?_eq_some_iff.1 hl
      rw [hM, List.dropLast_concat]
      simp
theorem Goes.smalls {s0 s : BS} {d : List Int} (h : Goes s0 s d) (hI : Inv s0) : ∀ x ∈ s.L, ∃ y ∈ s0.L, y.r = x.r ∧ y.sent = x.sent ∧ (y.small = true → x.small = true) := by
  induction h with
  | start => exact fun x hx => ⟨x, hx, rfl, rfl, id⟩
  | step h1 h2 ih =>
    have hI1 := h1.inv hI
    cases h2 with
    | sq _ _ hq =>
      obtain ⟨z, hz⟩ := Option.isSome_iff_exists.1 hq
      simp only [sqz, hz]
      intro x hx
      obtain ⟨y, hy, rfl⟩ := List.mem_map.1 hx
      obtain ⟨u, hu, h3, h4, h5⟩ := ih y hy
      refine ⟨u, hu, ?_⟩
      split
      · exact ⟨h3, h4, fun _ => rfl⟩
      · exact ⟨h3, h4, h5⟩
    | dr h _ _ hl =>
      intro x hx
      rw [drp_L hI1 hl] at hx
      exact ih x (List.dropLast_sublist _ |>.mem hx)
theorem squeeze_none_all {L : List Hld} (h : squeeze L = none) : ∀ x ∈ L, x.sq = false := by
  intro x hx
  have := List.find?_eq_none.1 h x (List.mem_reverse.2 hx)
  simpa using this
theorem squeeze_of_all {L : List Hld} (h : ∀ x ∈ L, x.sq = false) : squeeze L = none := by
  refine List.find?_eq_none.2 fun x hx => ?_
  rw [h x (List.mem_reverse.1 hx)]; decide
theorem Goes.tight {s0 s : BS} {d : List Int} (h : Goes s0 s d) (hI : Inv s0) (hl0 : s0.L.length ≤ 256) : s.L.length ≤ 256 ∧ (d ≠ [] → ∀ x ∈ s.L, x.sq = false) := by
  induction h with
  | start => exact ⟨hl0, fun h => absurd rfl h⟩
  | step h1 h2 ih =>
    have hI1 := h1.inv hI
    cases h2 with
    | sq _ _ hq =>
      refine ⟨by rw [len_sqz]; exact ih.1, fun hd => ?_⟩
      have := squeeze_of_all (ih.2 (by simpa using hd))
      rw [this] at hq; cases hq
    | dr h _ hn hl =>
      have hs := squeeze_none_all (hn ih.1)
      rw [drp_L hI1 hl]
      refine ⟨by rw [List.length_dropLast]; have := ih.1; omega, fun _ x hx => hs x (List.dropLast_sublist _ |>.mem hx)⟩
theorem Goes.capt {s0 s : BS} {d : List Int} (h : Goes s0 s d) : s.cap = s0.cap ∧ s.time = s0.time := by
  induction h with
  | start => exact ⟨rfl, rfl⟩
  | step h1 h2 ih =>
    cases h2 with
    | sq => unfold sqz; split <;> exact ih
    | dr => exact ih
structure Kept (s : BS) (r : Rec) (s' : BS) (d : List Int) (m' : List (Int × Rec)) : Prop where
  len : s'.L.length + d.length = s.L.length + 1
  nw : ∀ h ∈ s'.L, h.r.id ∉ ids s.L → h.r = r
  old : ∀ h ∈ s'.L, ∀ h0 ∈ s.L, h0.r.id = h.r.id → h0.small = true → h.small = true
  drop : ∀ x ∈ d, ∃ y, assoc m' x = some y ∧ y.Ok ∧ ∀ h ∈ s'.L, 0 < cmpR y h.r ∧ h.sq = false
theorem nodup_inj {L : List Hld} (hn : (ids L).Nodup) {x y : Hld} (hx : x ∈ L) (hy : y ∈ L) (h : x.r.id = y.r.id) : x = y := by
  have h1 := fnd_of_mem hn hx
  have h2 := fnd_of_mem hn hy
  rw [h, h2] at h1; exact (Option.some.inj h1).symm
theorem kept {c : Int} {i : Nat} {s s' : BS} {m : List (Int × Rec)} {r : Rec} {d : List Int} (hK : KI c i s m) (hi : i < 40) (hr : r.Ok) (hR : PutRes s r s' d 0) : Kept s r s' d (upd m r.id r) ∧ KI c (i + 1) s' (upd m r.id r) ∧ r.id ∉ ids s.L := by
  rcases hR with ⟨h, _⟩ | ⟨_, _, h, _⟩ | ⟨_, _, _, h, _⟩ | ⟨h1, h2, h3, _, hG, hF⟩
  · exact absurd hr h
  · cases h
  · cases h
  have hI0 := hK.inv.ins h1 h2
  have hI' := hG.inv hI0
  obtain ⟨ds, rfl, hrec⟩ := hG.recs hI0
  have hp := ins_perm s.L r
  have hlen0 : (insB s r).L.length = s.L.length + 1 := hp.length_eq
  have hlk := hK.len
  have ht := hG.tight hI0 (by rw [hlen0]; omega)
  have hl := congrArg List.length hrec
  simp only [List.length_append, List.length_map, List.length_reverse, hlen0] at hl
  -- whoever is there in the end was there, or is the new one
  have hfrom : ∀ x ∈ s'.L, ∃ y ∈ (insB s r).L, y.r = x.r ∧ (y.small = true → x.small = true) := fun x hx => by obtain ⟨y, hy, a, _, b⟩ := hG.smalls hI0 x hx; exact ⟨y, hy, a, b⟩
  have hmem : ∀ y ∈ (insB s r).L, y = new r ∨ y ∈ s.L := fun y hy => List.mem_cons.1 (hp.mem_iff.1 hy)
  have hall0 : ∀ y ∈ (insB s r).L, assoc (upd m r.id r) y.r.id = some y.r := by
    intro y hy
    rw [assoc_upd]
    rcases hmem y hy with rfl | hy
    · simp [new]
    · have hne : ¬ y.r.id = r.id := fun e => h2 (List.mem_map.2 ⟨y, hy, e⟩)
      rw [if_neg hne]; exact hK.all y hy
  have hnw : ∀ h ∈ s'.L, h.r.id ∉ ids s.L → h.r = r := by
    intro h hh hn
    obtain ⟨y, hy, hyr, _⟩ := hfrom h hh
    rcases hmem y hy with rfl | hy
    · exact hyr.symm
    · exact absurd (List.mem_map.2 ⟨y, hy, by rw [hyr]⟩) hn
  refine ⟨⟨by rw [List.length_map]; omega, hnw, ?_, ?_⟩, ⟨hI', by omega, by rw [hG.capt.1]; exact hK.cp, ?_, ?_⟩, h2⟩
  · intro h hh h0 hh0 hid hs
    obtain ⟨y, hy, hyr, hsm⟩ := hfrom h hh
    rcases hmem y hy with rfl | hy
    · exact absurd (List.mem_map.2 ⟨h0, hh0, by rw [hid, ← hyr]; rfl⟩) h2
    · have : y = h0 := nodup_inj hK.inv.nd hy hh0 (by rw [hyr, hid])
      subst this; exact hsm hs
  · intro x hx
    obtain ⟨y, hy, rfl⟩ := List.mem_map.1 hx
    have hy0 : y ∈ (insB s r).L.map (·.r) := by rw [← hrec]; exact List.mem_append_right _ (List.mem_reverse.2 hy)
    obtain ⟨z, hz, rfl⟩ := List.mem_map.1 hy0
    refine ⟨z.r, hall0 z hz, hI0.ok z hz, fun h hh => ⟨?_, ht.2 (fun e => by rw [e] at hx; cases hx) h hh⟩⟩
    have hsrt : ((insB s r).L.map (·.r)).Pairwise lt := List.pairwise_map.2 hI0.srt
    rw [← hrec, List.pairwise_append] at hsrt
    exact (cmpR_gt _ _).2 (hsrt.2.2 h.r (List.mem_map.2 ⟨h, hh, rfl⟩) z.r (List.mem_reverse.2 hy))
  · intro h hh
    obtain ⟨y, hy, hyr, _⟩ := hfrom h hh
    have := hall0 y hy
    rw [hyr] at this; exact this
  · have : ¬ (s'.cap < s'.used) := fun h => hF (.inl h)
    omega
theorem kept_err {s s' : BS} {r : Rec} {d : List Int} {e : Int} (hr : r.Ok) (he : ¬ e = 0) (hR : PutRes s r s' d e) : s' = s ∧ d = [] ∧ ((e = 12 ∧ r.id ∈ ids s.L) ∨ (e = 14 ∧ r.id ∉ ids s.L)) := by
  rcases hR with ⟨h, _⟩ | ⟨_, h2, h, h3, h4⟩ | ⟨_, h2, _, h, h3, h4⟩ | ⟨_, _, _, h, _⟩
  · exact absurd hr h
  · exact ⟨h3, h4, .inl ⟨h, h2⟩⟩
  · exact ⟨h3, h4, .inr ⟨h, h2⟩⟩
  · exact absurd h he
theorem sumB_take {L : List Hld} {k : Nat} (hk : k < L.length) : sumB (L.take (k + 1)) = sumB (L.take k) + L[k].bytes := by
  rw [List.take_succ_eq_append_getElem hk, sumB_perm List.perm_append_comm, List.singleton_append, sumB_cons]; omega
theorem sorted_prev {L : List Hld} (h : Sorted L) {k : Nat} (hk : k < L.length) (h0 : 0 < k) : 0 < cmpR L[k].r (L[k - 1]'(by omega)).r :=
  (cmpR_gt _ _).2 (List.pairwise_iff_getElem.1 h (k - 1) k (by omega) hk (by omega))
theorem KI.step {c : Int} {i : Nat} {s : BS} {m : List (Int × Rec)} (h : KI c i s m) : KI c (i + 1) s m := ⟨h.inv, Nat.le_succ_of_le h.len, h.cp, h.all, h.us⟩
end Go.Proofs.Ytjhbgciocffihaa
