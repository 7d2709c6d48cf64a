/- Plain words on rounds of bursts and acknowledgements: what stays true. -/
import Derived.Test.YtjhbgciocffihaaB40
set_option linter.unusedVariables false
set_option linter.unusedSimpArgs false
namespace Go.Proofs.Ytjhbgciocffihaa

structure ON (N t : Int) (s : BS) (xs : List Rec) (m : List (Int × Rec)) (g : List Bool) : Prop where
  inv : Inv s
  inb : Inb xs
  n0 : 0 ≤ N
  len : (s.L.length : Int) ≤ N
  gl : g.length = 100
  us : s.used ≤ s.cap
  cp : s.cap ≤ 2000
  hold : ∀ h ∈ s.L, assoc m h.r.id = some h.r
  arr : ∀ r ∈ xs, assoc m r.id = some r
  dom : ∀ k r, assoc m k = some r → (0 ≤ k ∧ k < N ∧ r.id = k ∧ r.Ok) ∧ (k ∈ ids s.L ∨ k ∈ rids xs ∨ g[k.toNat]? = some true)
  t0 : 0 ≤ s.time
  tm : s.time ≤ t
  snt : ∀ h ∈ s.L, h.sent ≤ t
theorem sorted_len : ∀ (l : List Int) (a N : Int), a ≤ N → l.Pairwise (· < ·) → (∀ x ∈ l, a ≤ x ∧ x < N) → a + (l.length : Int) ≤ N
  | [], a, N, h, _, _ => by simpa using h
  | x :: l, a, N, h, hs, hb => by
    obtain ⟨h1, h2⟩ := List.pairwise_cons.1 hs
    have hx := hb x (List.mem_cons_self ..)
    have ih := sorted_len l (x + 1) N (by omega) h2 (fun y hy => by have := h1 y hy; have := hb y (List.mem_cons_of_mem _ hy); omega)
    rw [List.length_cons]; omega
theorem ON.xlen {N t : Int} {s : BS} {xs : List Rec} {m : List (Int × Rec)} {g : List Bool} (h : ON N t s xs m g) : (xs.length : Int) ≤ N := by
  have h1 := sorted_len (rids xs) 0 N h.n0 (List.pairwise_map.2 h.inb.srt) (fun x hx => by
    obtain ⟨r, hr, rfl⟩ := List.mem_map.1 hx
    have := (h.dom _ _ (h.arr r hr)).1
    exact ⟨this.1, this.2.1⟩)
  simp only [rids, List.length_map] at h1
  omega
theorem ON.start {c : Int} (h : 1 ≤ c ∧ c ≤ 2000) : ON 0 0 ⟨c, 0, 0, []⟩ [] [] (List.replicate 100 false) :=
  ⟨inv0 c ⟨h.1, by omega⟩, inb_nil, Int.le_refl _, Int.le_refl _, List.length_replicate, (show (0 : Int) ≤ c by omega), h.2, (fun x hx => absurd hx List.not_mem_nil), (fun x hx => absurd hx List.not_mem_nil), (fun k r hk => by cases hk), Int.le_refl _, Int.le_refl _, (fun x hx => absurd hx List.not_mem_nil)⟩
theorem ON.up {N t t' : Int} {s : BS} {xs : List Rec} {m : List (Int × Rec)} {g : List Bool} (h : ON N t s xs m g) (ht : t ≤ t') : ON N t' s xs m g :=
  ⟨h.inv, h.inb, h.n0, h.len, h.gl, h.us, h.cp, h.hold, h.arr, h.dom, h.t0, by have := h.tm; omega, fun x hx => by have := h.snt x hx; omega⟩
theorem ON.held {N t : Int} {s : BS} {xs : List Rec} {m : List (Int × Rec)} {g : List Bool} (h : ON N t s xs m g) {k : Int} (hk : k ∈ ids s.L) : 0 ≤ k ∧ k < N ∧ ∃ r, assoc m k = some r ∧ r.id = k ∧ r.Ok := by
  obtain ⟨x, hx, rfl⟩ := List.mem_map.1 hk
  have h1 := h.hold x hx
  have h2 := (h.dom _ _ h1).1
  exact ⟨h2.1, h2.2.1, x.r, h1, rfl, h2.2.2.2⟩
theorem ON.full {N t : Int} {s : BS} {xs : List Rec} {m : List (Int × Rec)} {g : List Bool} (h : ON N t s xs m g) {r : Rec} (hr : r.Ok) (hid : r.id = N) {s' : BS} {d : List Int} (hp : PutRes s r s' d 14) : s' = s ∧ d = [] ∧ ON (N + 1) t s xs m g := by
  rcases hp with ⟨_, h1, _⟩ | ⟨_, _, h1, _⟩ | ⟨_, _, _, _, rfl, rfl⟩ | ⟨_, _, _, h1, _⟩
  · cases h1
  · cases h1
  · refine ⟨rfl, rfl, h.inv, h.inb, by have := h.n0; omega, by have := h.len; omega, h.gl, h.us, h.cp, h.hold, h.arr, fun k q hk => ?_, h.t0, h.tm, h.snt⟩
    have := h.dom k q hk
    exact ⟨⟨this.1.1, by have := this.1.2.1; omega, this.1.2.2⟩, this.2⟩
  · cases h1
theorem ON.putE {N t : Int} {s : BS} {xs : List Rec} {m : List (Int × Rec)} {g : List Bool} (h : ON N t s xs m g) {r : Rec} (hr : r.Ok) (hid : r.id = N) {s' : BS} {d : List Int} {e : Int} (hp : PutRes s r s' d e) : e = 14 ∨ e = 0 := by
  rcases hp with ⟨h1, _⟩ | ⟨_, h1, _⟩ | ⟨_, _, _, h1, _⟩ | ⟨_, _, _, h1, _⟩
  · exact absurd hr h1
  · have := (h.held h1).2.1; omega
  · exact .inl h1
  · exact .inr h1
theorem ON.put {N t : Int} {s : BS} {xs : List Rec} {m : List (Int × Rec)} {g : List Bool} (h : ON N t s xs m g) (ht : -1 ≤ t) {r : Rec} (hr : r.Ok) (hid : r.id = N) {s' : BS} {d : List Int} (hp : PutRes s r s' d 0) :
    (∀ k ∈ d, 0 ≤ k ∧ k < N + 1) ∧ ∀ g' : List Bool, g'.length = 100 → (∀ j : Nat, g[j]? = some true → g'[j]? = some true) → (∀ k ∈ d, g'[k.toNat]? = some true) → ON (N + 1) t s' xs (upd m N r) g' := by
  have hlen1 := hp.len1 h.inv
  have hpi := hp.inv h.inv
  rcases hp with ⟨_, h1, _⟩ | ⟨_, _, h1, _⟩ | ⟨_, _, _, h1, _⟩ | ⟨_, hn, _, _, hG, hF⟩
  · cases h1
  · cases h1
  · cases h1
  have hIi := h.inv.ins hr hn
  obtain ⟨ds, rfl, hrec⟩ := hG.recs hIi
  have hperm : ((insB s r).L.map (·.r)).Perm (r :: s.L.map (·.r)) := (ins_perm s.L r).map (·.r)
  have hmem : ∀ q : Rec, (q ∈ s'.L.map (·.r) ∨ q ∈ ds) ↔ (q = r ∨ q ∈ s.L.map (·.r)) := fun q => by
    have h1 : q ∈ s'.L.map (·.r) ++ ds.reverse ↔ q ∈ (insB s r).L.map (·.r) := by rw [hrec]
    rw [List.mem_append, List.mem_reverse, hperm.mem_iff, List.mem_cons] at h1
    exact h1
  have hN : ∀ q ∈ s.L.map (·.r), 0 ≤ q.id ∧ q.id < N ∧ assoc m q.id = some q := fun q hq => by
    obtain ⟨x, hx, rfl⟩ := List.mem_map.1 hq
    have h1 := h.hold x hx
    have h2 := (h.dom _ _ h1).1
    exact ⟨h2.1, h2.2.1, h1⟩
  have hn0 := h.n0
  have hcap := hG.capt
  refine ⟨fun k hk => ?_, fun g' hg1 hg2 hg3 => ?_⟩
  · obtain ⟨q, hq, rfl⟩ := List.mem_map.1 hk
    rcases (hmem q).1 (.inr hq) with rfl | h1
    · omega
    · have := hN q h1; omega
  have hnf : s'.used ≤ s'.cap := by
    unfold Full at hF; omega
  refine ⟨hpi, h.inb, by omega, by have := h.len; omega, hg1, hnf, by rw [hcap.1]; exact h.cp, fun x hx => ?_, fun q hq => ?_, fun k q hk => ?_, by rw [hcap.2]; exact h.t0, by rw [hcap.2]; exact h.tm, fun x hx => ?_⟩
  · rw [assoc_upd]
    rcases (hmem x.r).1 (.inl (List.mem_map.2 ⟨x, hx, rfl⟩)) with h1 | h1
    · rw [if_pos (by rw [h1]; exact hid), h1]
    · have := hN _ h1
      rw [if_neg (by omega)]; exact this.2.2
  · have h1 := h.arr q hq
    have h2 := (h.dom _ _ h1).1
    rw [assoc_upd, if_neg (by omega)]; exact h1
  · rw [assoc_upd] at hk
    have hput : ∀ z : Rec, (z = r ∨ z ∈ s.L.map (·.r)) → z.id ∈ ids s'.L ∨ z.id ∈ rids xs ∨ g'[z.id.toNat]? = some true := fun z hz => by
      rcases (hmem z).2 hz with h1 | h1
      · obtain ⟨x, hx, rfl⟩ := List.mem_map.1 h1
        exact .inl (List.mem_map.2 ⟨x, hx, rfl⟩)
      · exact .inr (.inr (hg3 _ (List.mem_map.2 ⟨z, h1, rfl⟩)))
    by_cases hkN : k = N
    · rw [if_pos hkN] at hk
      cases hk
      subst hkN
      have h1 := hput r (.inl rfl)
      rw [hid] at h1
      exact ⟨⟨hn0, by omega, hid, hr⟩, h1⟩
    · rw [if_neg hkN] at hk
      have h2 := h.dom k q hk
      refine ⟨⟨h2.1.1, by have := h2.1.2.1; omega, h2.1.2.2⟩, ?_⟩
      rcases h2.2 with h3 | h3 | h3
      · obtain ⟨x, hx, hxk⟩ := List.mem_map.1 h3
        have h4 := hput x.r (.inr (List.mem_map.2 ⟨x, hx, rfl⟩))
        have hxk' : x.r.id = k := hxk
        rw [hxk'] at h4; exact h4
      · exact .inr (.inl h3)
      · exact .inr (.inr (hg2 _ h3))
  · obtain ⟨y, hy, _, h2, _⟩ := hG.smalls hIi x hx
    rw [← h2]
    have hy' : y ∈ ins s.L r := hy
    rcases List.mem_cons.1 ((ins_perm s.L r).mem_iff.1 hy') with rfl | h3
    · exact ht
    · exact h.snt y h3
theorem ids_bst (s : BS) (n t wt : Int) : ids (bst s n t wt).L = ids s.L := ids_setSent _ _ _
theorem bst_recs (s : BS) (n t wt : Int) : (bst s n t wt).L.map (·.r) = s.L.map (·.r) := setSent_rec _ _ _
theorem bst_len (s : BS) (n t wt : Int) : (bst s n t wt).L.length = s.L.length := by
  have := congrArg List.length (bst_recs s n t wt)
  simpa using this
theorem ON.burst {N t : Int} {s : BS} {xs : List Rec} {m : List (Int × Rec)} {g : List Bool} (h : ON N t s xs m g) (ht : 0 ≤ t) (n : Int) : ON N t (bst s n t 0) xs m g := by
  refine ⟨h.inv.bst n t 0, h.inb, h.n0, by rw [bst_len]; exact h.len, h.gl, h.us, h.cp, fun x hx => ?_, h.arr, fun k r hk => by rw [ids_bst]; exact h.dom k r hk, ht, Int.le_refl _, fun x hx => ?_⟩
  · have h1 : x.r ∈ (bst s n t 0).L.map (·.r) := List.mem_map.2 ⟨x, hx, rfl⟩
    rw [bst_recs] at h1
    obtain ⟨y, hy, he⟩ := List.mem_map.1 h1
    rw [← he]; exact h.hold y hy
  · obtain ⟨y, hy, rfl⟩ := List.mem_map.1 (show x ∈ setSent s.L _ t from hx)
    split
    · exact Int.le_refl _
    · exact h.snt y hy
theorem ON.sent {N t : Int} {s : BS} {xs : List Rec} {m : List (Int × Rec)} {g : List Bool} (h : ON N t s xs m g) {n t1 wt : Int} {k : Int} (hk : k ∈ (bf n t1 wt s.L).2) : ∃ r, assoc m k = some r ∧ r.id = k ∧ r.Ok := by
  have h1 := bfold_mem n (s.L.filter (due t1 wt)) k hk
  obtain ⟨x, hx, rfl⟩ := List.mem_map.1 h1
  exact (h.held (List.mem_map.2 ⟨x, (List.mem_filter.1 hx).1, rfl⟩)).2.2
theorem bfold_all : ∀ (L : List Hld) (n : Int) (d : List Int), (∀ h ∈ L, 0 ≤ h.bytes) → sumB L ≤ n → (L.foldl bstep (n, d)).2 = d ++ ids L
  | [], n, d, _, _ => by simp [ids]
  | x :: L, n, d, h, hn => by
    rw [sumB_cons] at hn
    have h0 : 0 ≤ sumB L := by
      clear hn
      induction L with
      | nil => exact Int.le_refl _
      | cons y L ih =>
        rw [sumB_cons]
        have h1 := h y (by simp)
        have h2 := ih (fun z hz => h z (by rcases List.mem_cons.1 hz with rfl | hz; exact List.mem_cons_self ..; exact List.mem_cons_of_mem _ (List.mem_cons_of_mem _ hz)))
        omega
    show (L.foldl bstep (bstep (n, d) x)).2 = _
    have hb : bstep (n, d) x = (n - x.bytes, d ++ [x.r.id]) := if_pos (show x.bytes ≤ n by omega)
    rw [hb, bfold_all L _ _ (fun z hz => h z (List.mem_cons_of_mem _ hz)) (by omega), List.append_assoc]
    rfl
theorem ON.allSent {N t : Int} {s : BS} {xs : List Rec} {m : List (Int × Rec)} {g : List Bool} (h : ON N t s xs m g) : (bf 16777216 t 0 s.L).2 = ids s.L := by
  have hf : s.L.filter (due t 0) = s.L := List.filter_eq_self.2 fun x hx => by
    unfold due
    exact decide_eq_true (.inr (by have := h.snt x hx; omega))
  unfold bf
  rw [hf]
  unfold bfold
  rw [bfold_all s.L _ _ (fun x hx => by have := (bytes_rng (h.inv.ok x hx)).1; omega) (by have := h.us; have := h.cp; rw [← h.inv.us]; omega)]
  rfl
theorem ON.take {N t : Int} {s : BS} {xs : List Rec} {m : List (Int × Rec)} {g : List Bool} (h : ON N t s xs m g) (hN : N ≤ 100) {y : Rec} (hy : assoc m y.id = some y) {xs' : List Rec} {ok : Bool} {e : Int} (hR : TakeRes xs y xs' ok e) : e = 0 ∧ ON N t s xs' m g ∧ y.id ∈ rids xs' ∧ ∀ k ∈ rids xs, k ∈ rids xs' := by
  have hI := hR.inb h.inb
  have hyo := (h.dom _ _ hy).1.2.2.2
  have hx := h.xlen
  rcases hR with ⟨a1, _⟩ | ⟨a1, a2, rfl, _, rfl⟩ | ⟨a1, a2, a3, _⟩ | ⟨a1, a2, a3, rfl, _, rfl⟩
  · exact absurd hyo a1
  · exact ⟨rfl, h, a2, fun k hk => hk⟩
  · omega
  · have hp := insI_perm xs y
    have hr : ∀ k, k ∈ rids (insI xs y) ↔ k = y.id ∨ k ∈ rids xs := fun k => by
      have := (hp.map (·.id)).mem_iff (a := k)
      rw [List.map_cons, List.mem_cons] at this
      exact this
    refine ⟨rfl, ⟨h.inv, hI, h.n0, h.len, h.gl, h.us, h.cp, h.hold, fun r hr' => ?_, fun k r hk => ⟨(h.dom k r hk).1, ?_⟩, h.t0, h.tm, h.snt⟩, (hr _).2 (.inl rfl), fun k hk => (hr k).2 (.inr hk)⟩
    · rcases List.mem_cons.1 (hp.mem_iff.1 hr') with rfl | h1
      · exact hy
      · exact h.arr r h1
    · rcases (h.dom k r hk).2 with h1 | h1 | h1
      · exact .inl h1
      · exact .inr (.inl ((hr k).2 (.inr h1)))
      · exact .inr (.inr h1)
theorem ON.set0 {N t : Int} {s : BS} {xs : List Rec} {m : List (Int × Rec)} {g : List Bool} (h : ON N t s xs m g) (hN : N ≤ 100) : setE (runs (rids xs)) = 0 := by
  have hx := h.xlen
  refine runs_setE (List.pairwise_map.2 h.inb.srt) (fun x hx => ?_) (by simp only [rids, List.length_map]; omega)
  obtain ⟨r, hr, rfl⟩ := List.mem_map.1 hx
  have := h.inb.ok r hr
  unfold Rec.Ok at this; omega
theorem ON.ack {N t : Int} {s : BS} {xs : List Rec} {m : List (Int × Rec)} {g : List Bool} (h : ON N t s xs m g) : ON N t (ackTo (runs (rids xs)) s s.L.length) xs m g := by
  have hL := ackTo_all (runs (rids xs)) s
  have hsub : ∀ x ∈ (ackTo (runs (rids xs)) s s.L.length).L, x ∈ s.L := fun x hx => by rw [hL] at hx; exact (List.mem_filter.1 hx).1
  have hle : (ackTo (runs (rids xs)) s s.L.length).L.length ≤ s.L.length := ackTo_len _ _ _
  have hus : (ackTo (runs (rids xs)) s s.L.length).used ≤ s.used := by
    show s.used - sumB _ ≤ s.used
    have := (sumB_rng (L := (s.L.take s.L.length).filter fun h => inS (runs (rids xs)) h.r.id) (fun x hx => h.inv.ok x (List.mem_of_mem_take (List.mem_filter.1 hx).1))).1
    omega
  refine ⟨h.inv.ackTo _ _, h.inb, h.n0, by have := h.len; omega, h.gl, by have := h.us; exact Int.le_trans hus this, h.cp, fun x hx => h.hold x (hsub x hx), h.arr, fun k r hk => ⟨(h.dom k r hk).1, ?_⟩, h.t0, h.tm, fun x hx => h.snt x (hsub x hx)⟩
  rcases (h.dom k r hk).2 with h1 | h1 | h1
  · by_cases hk2 : k ∈ rids xs
    · exact .inr (.inl hk2)
    · obtain ⟨x, hx, hxk⟩ := List.mem_map.1 h1
      refine .inl (List.mem_map.2 ⟨x, ?_, hxk⟩)
      rw [hL, List.mem_filter]
      refine ⟨hx, ?_⟩
      have hxk' : x.r.id = k := hxk
      rw [hxk', runs_in]; simp [hk2]
  · exact .inr (.inl h1)
  · exact .inr (.inr h1)
theorem ON.ackAll {N t : Int} {s : BS} {xs : List Rec} {m : List (Int × Rec)} {g : List Bool} (h : ON N t s xs m g) (ha : ∀ k ∈ ids s.L, k ∈ rids xs) : (ackTo (runs (rids xs)) s s.L.length).L = [] := by
  rw [ackTo_all]
  refine List.filter_eq_nil_iff.2 fun x hx => ?_
  have := ha _ (List.mem_map.2 ⟨x, hx, rfl⟩)
  rw [runs_in]
  simp [this]
end Go.Proofs.Ytjhbgciocffihaa
