-- written by gen.py out of walks texts of my own
import Derived.Test.YtjhbgciocffihaaB34
import Derived.Test.YtjhbgciocffihaaKS
set_option linter.unusedVariables false
set_option linter.unusedSimpArgs false
set_option maxHeartbeats 4000000
namespace Go.Proofs.Ytjhbgciocffihaa
theorem zero_map (l : List Ch) : l.map Ch.zero.add = l := by
  induction l with
  | nil => rfl
  | cons c l ih => rw [List.map_cons, ih, Ch.zero_add]
instance : Inhabited Ch := ⟨Ch.zero⟩
theorem subsets_spec {e : Env} {w : World} {rs : List Part} (lv : Value) (xs : List Pcl) (hxs : ∀ x ∈ xs, Pok x) (o : Nat) (hxo : xs.length ≤ o) (ho : o ≤ 24) (hx12 : xs.length ≤ 12) (hi : Int) (hhi : hi = (o : Int) - 1) (hE : Els encPl rs lv xs) (hT : Tot e w rs) : Spec Try.prog 75 #[lv, .int .i64 hi] e w rs (fun v L => ∃ X, Sl encCh 139 v (all xs o) X ∧ L = [X]) := by
  refine spec_body Try.func75 rfl Try.ntmps75 rfl rfl ?_
  intro a hf
  obtain ⟨A0, c0, rfl, hA0, hle0⟩ := hE.shape
  refine wpIn_seq ?_
  -- region 0 (best.go:23)
  refine wp_reg ([]) ([] ++ rs) [(0, false), (1, false), (2, true)] mixed (by kernel_rfl) (hT) ?_; intro w hT
  refine ef hf hT rfl rfl (ef_box rfl) rfl (l' := [(0, _), (1, _)]) rfl ?_; rintro a w v L ⟨b1, rfl, rfl⟩ hf hT
  refine ef hf hT rfl rfl (ef_box rfl) rfl (l' := [(2, _), (0, _), (1, _)]) rfl ?_; rintro a w v L ⟨b2, rfl, rfl⟩ hf hT
  refine rd hf rfl (yl_assign rfl) rfl rfl ?_; intro a hf
  refine plan_nil ?_
  replace hf := hf.sel [3, 2] (l' := [(3, _), (2, _)]) rfl
  refine wpIn_seq ?_
  -- region 1 (best.go:24)
  refine wp_reg ([]) ([_, _] ++ rs) [(0, false)] mixed (by kernel_rfl) (hT) ?_; intro w hT
  refine ef hf hT rfl rfl (ef_alloc zr_135) rfl (l' := [(3, _), (2, _)]) rfl ?_; rintro a w v L ⟨b3, rfl, rfl⟩ hf hT
  refine plan_nil ?_
  refine wpIn_seq ?_
  -- region 2 (best.go:25)
  refine wp_reg ([]) ([_, _, _] ++ rs) [(0, false)] mixed (by kernel_rfl) (hT) ?_; intro w hT
  refine ef hf hT rfl rfl (ef_alloc zr_165) rfl (l' := [(5, _), (3, _), (2, _)]) rfl ?_; rintro a w v L ⟨b4, rfl, rfl⟩ hf hT
  refine plan_nil ?_
  refine wpIn_seq ?_
  -- region 3 (best.go:26)
  refine wp_reg ([]) ([_, _, _, _] ++ rs) [(0, true), (1, false)] mixed (by kernel_rfl) (hT) ?_; intro w hT
  refine rd hf rfl (yl_func rfl) rfl rfl ?_; intro a hf
  replace hT : Tot _ _ ([_] ++ ([_, _, _] ++ rs)) := hT.bring 0
  refine efS_last hf hT rfl rfl (by kernel_rfl) (ef_store rfl rfl sz_165 rfl rfl) ?_; rintro w L rfl hT
  replace hT := hT.emp
  replace hf := hf.sel [6, 5] (l' := [(6, _), (5, _)]) rfl
  refine wpIn_seq ?_
  -- region 4 (best.go:34)
  refine wp_reg ([_, _]) ([_, _, _] ++ rs) [(0, true), (1, true), (2, false)] mixed (by kernel_rfl) (hT.brings [0, 2]) ?_; intro w hT
  refine rd hf rfl (yl_load Try.underlying165 rfl rfl ⟨_, .head _, _, _, _, pt_self _ _, rfl⟩) rfl rfl ?_; intro a hf
  refine rd hf rfl (yl_build rfl Try.underlying139 zr_139 (places := [(0, 1), (1, 1), (2, 1)]) (by kernel_rfl) (by kernel_rfl) rfl) rfl rfl ?_; intro a hf
  replace hT : Tot _ _ ([_, _] ++ ([_, _, _] ++ rs)) := hT.bring 1
  replace hT : Tot _ _ ([_, _] ++ ([_, _, _] ++ rs)) := hT.bring 1
  refine ef_call hf rfl (wanted_none _ _ rfl) rfl rfl (by kernel_rfl) (Spec.frame (L2 := []) (subs1_spec b1 b3 b4 b2 _ xs hxs o hxo ho hi hhi (xs.length - 0) 0 rfl (Nat.zero_le _) Ch.zero (.slice none 0 0) [] _ _ ([_, _, _] ++ rs) hE.app (RowIn.of_block (.tail _ (.tail _ (.head _))) (pt_self _ _) (fun j hj => by simp at hj; obtain rfl : j = 0 := (by omega); rfl)) (RowIn.of_block (.head _) (pt_self _ _) (fun j hj => by simp at hj; obtain rfl : j = 0 := (by omega); rfl)) (RowIn.of_block (.tail _ (.head _)) (pt_self _ _) (fun j hj => by simp at hj; obtain rfl : j = 0 := (by omega); rfl)) (Nat.dvd_zero _) (by show 0 + _ ≤ _; rw [Nat.sub_zero]; omega) (by decide) (by decide) (by decide) (by decide) (by rw [Nat.sub_zero]; have := Nat.pow_le_pow_right (n := 2) (by decide) hx12; show 0 + _ ≤ _; omega) sl_nil hT)) rfl (l' := [(9, _), (8, _), (6, _), (5, _)]) rfl ?_; rintro a w v L ⟨L1, ⟨rfl, q, X, hQ, rfl⟩, rfl⟩ hf hT
  refine plan_nil ?_
  replace hf := hf.sel [5] (l' := [(5, _)]) rfl
  refine wpIn_seq ?_
  -- region 5 (best.go:35)
  refine wp_reg ([]) ([_, _, _, _, _] ++ rs) [(0, true), (1, true)] mixed (by kernel_rfl) (hT) ?_; intro w hT
  refine rd hf rfl (yl_load Try.underlying135 rfl rfl ⟨_, .head _, _, _, _, pt_self _ _, rfl⟩) rfl rfl ?_; intro a hf
  refine rd hf rfl (yl_assign rfl) rfl rfl ?_; intro a hf
  refine plan_nil ?_
  refine wpIn_ret ?_
  exact body_ret hf (L := [_]) ((hT.brings [4, 4, 4, 3]).tail.tail.tail.tail) rfl rfl ⟨X, by rw [List.nil_append, List.drop_zero, Nat.sub_zero, zero_map] at hQ; exact hQ, rfl⟩
theorem placeC_spec {e : Env} {w : World} {rs : List Part} (S : List Ch) (vo : Value) (hE : Els encCh rs vo S) (hL : S.length ≤ 8192) (m : Int) (p : Nat) (hp : p ≤ S.length) (hpart : ∀ i (hi : i < S.length), (S[i].s ≤ m ↔ i < p)) (hT : Tot e w rs) : Spec Try.prog 81 #[vo, .int .i64 m, .func (.func 82) #[] #[]] e w rs (fun v L => v = .int .i64 (p : Nat) ∧ L = []) := by
  refine spec_body Try.func81 rfl Try.ntmps81 rfl rfl ?_
  intro a hf
  refine wpIn_seq ?_
  -- region 0 (buffer.go:61)
  refine wp_reg ([]) ([] ++ rs) [(0, true)] mixed (by kernel_rfl) (hT) ?_; intro w hT
  refine rd hf rfl (yl_assign rfl) rfl rfl ?_; intro a hf
  refine plan_nil ?_
  refine wpIn_seq ?_
  -- region 1 (buffer.go:62)
  refine wp_reg ([]) ([] ++ rs) [(0, true), (1, true), (2, true), (3, true)] mixed (by kernel_rfl) (hT) ?_; intro w hT
  refine rd hf rfl (yl_move rfl) rfl rfl ?_; intro a hf
  refine rd hf rfl (yl_lenE rfl Try.underlying135 hE.app) rfl rfl ?_; intro a hf
  refine rd hf rfl (yl_assign rfl) rfl rfl ?_; intro a hf
  refine rd hf rfl (yl_assign rfl) rfl rfl ?_; intro a hf
  refine plan_nil ?_
  replace hf := hf.sel [8, 7, 0, 1, 2] (l' := [(8, _), (7, _), (0, _), (1, _), (2, _)]) rfl
  refine wpIn_seq ?_
  refine wpIn_block ?_
  have hlen := hE.len_le
  refine wp_loopS (σ := Nat × Nat) (fun (lo, hi) => [(7, .int .i64 (lo : Nat)), (8, .int .i64 (hi : Nat))]) [(0, _), (1, _), (2, _)] (fun (lo, hi) L => L = [] ∧ lo ≤ p ∧ p ≤ hi ∧ hi ≤ S.length) (fun (lo, hi) => hi - lo) (0, S.length) (L := []) (R := [] ++ rs) (hf.sel [7, 8, 0, 1, 2] rfl) (⟨rfl, Nat.zero_le _, hp, Nat.le_refl _⟩) hT ?_
  clear hf hT; rintro ⟨lo, hi⟩ a w L hf ⟨rfl, hlo, hhi, hle⟩ hT
  replace hf : Fr _ [(7, .int .i64 (lo : Nat)), (8, .int .i64 (hi : Nat)), (0, _), (1, _), (2, _)] _ _ := hf
  refine wpIn_seq ?_
  refine wpIn_seq ?_
  -- region 2 (buffer.go:63)
  refine wp_reg ([]) ([] ++ rs) [(0, true), (1, true), (2, true)] mixed (by kernel_rfl) (hT) ?_; intro w hT
  refine rd hf rfl (yl_move rfl) rfl rfl ?_; intro a hf
  refine rd hf rfl (yl_move rfl) rfl rfl ?_; intro a hf
  refine rd hf rfl (yl_cmp rfl rfl rfl) rfl rfl ?_; intro a hf
  refine plan_nil ?_
  refine wp_ifd hf rfl (fun hlt => ?_) (fun hlt => ?_)
  · -- then
    have hlt' : lo < hi := by omega
    have hdv : (((lo : Int) + (hi : Int)).tdiv 2) = (((lo + hi) / 2 : Nat) : Int) := by rw [Int.tdiv_eq_ediv_of_nonneg (by omega)]; omega
    have hmid : (lo + hi) / 2 < S.length := by omega
    have hj : S[(((lo : Int) + (hi : Int)).tdiv 2).toNat]? = some S[(lo + hi) / 2] := by rw [hdv, Int.toNat_natCast]; simp [hmid]
    have hpm := hpart _ hmid
    refine wpIn_skip ?_
    refine wpIn_block ?_
    refine wpIn_seq ?_
    -- region 3 (buffer.go:64)
    refine wp_reg ([]) ([] ++ rs) [(0, true), (1, true), (2, true), (3, true), (4, true)] mixed (by kernel_rfl) (hT) ?_; intro w hT
    refine rd hf rfl (yl_move rfl) rfl rfl ?_; intro a hf
    refine rd hf rfl (yl_move rfl) rfl rfl ?_; intro a hf
    refine rd hf rfl (yl_add rfl rfl (by unfold inI64; omega)) rfl rfl ?_; intro a hf
    refine rd hf rfl (yl_quo rfl rfl (by omega) (by omega) (by omega)) rfl rfl ?_; intro a hf
    refine rd hf rfl (yl_assign rfl) rfl rfl ?_; intro a hf
    refine plan_nil ?_
    replace hf := hf.sel [9, 7, 8, 0, 1, 2] (l' := [(9, _), (7, _), (8, _), (0, _), (1, _), (2, _)]) rfl
    refine wpIn_seq ?_
    -- region 4 (buffer.go:65)
    refine wp_reg ([]) ([] ++ rs) [(0, true), (1, true), (2, true), (3, true), (4, true), (5, true), (6, false), (7, true)] mixed (by kernel_rfl) (hT) ?_; intro w hT
    refine rd hf rfl (yl_move rfl) rfl rfl ?_; intro a hf
    refine rd hf rfl (yl_move rfl) rfl rfl ?_; intro a hf
    refine rd hf rfl (yl_move rfl) rfl rfl ?_; intro a hf
    refine rd hf rfl (yl_indexE rfl rfl Try.underlying135 sz_139 hE.app (by omega) (by omega)) rfl rfl ?_; intro a hf
    refine rd hf rfl (yl_loadA Try.underlying139 rfl sz_139 rfl (hE.app.row hj) rfl) rfl rfl ?_; intro a hf
    refine rd hf rfl (yl_move rfl) rfl rfl ?_; intro a hf
    refine ef_call hf rfl (wanted_none _ _ rfl) rfl rfl (by kernel_rfl) (Spec.frame (L2 := []) (Best3_spec _ m hT)) rfl (l' := [(24, _), (23, _), (22, _), (21, _), (20, _), (19, _), (9, _), (7, _), (8, _), (0, _), (1, _), (2, _)]) rfl ?_; rintro a w v L ⟨L1, ⟨rfl, rfl⟩, rfl⟩ hf hT
    refine rd hf rfl (yl_cmp rfl rfl rfl) rfl rfl ?_; intro a hf
    refine plan_nil ?_
    replace hf := hf.sel [26, 9, 7, 8, 0, 1, 2] (l' := [(26, _), (9, _), (7, _), (8, _), (0, _), (1, _), (2, _)]) rfl
    refine wp_ifd hf rfl (fun hcm => ?_) (fun hcm => ?_)
    · -- then
      have hlt2 : (lo + hi) / 2 < p := hpm.1 (by by_cases hq : S[(lo + hi) / 2].s ≤ m; exact hq; rw [if_neg hq] at hcm; omega)
      -- region 5 (buffer.go:66)
      refine wp_reg ([]) ([] ++ rs) [(0, true), (1, true), (2, true)] mixed (by kernel_rfl) (hT) ?_; intro w hT
      refine rd hf rfl (yl_move rfl) rfl rfl ?_; intro a hf
      refine rd hf rfl (yl_add rfl rfl (by unfold inI64; omega)) rfl rfl ?_; intro a hf
      refine rw_ hf rfl (yl_assign rfl) rfl (l' := [(7, _), (28, _), (27, _), (26, _), (9, _), (8, _), (0, _), (1, _), (2, _)]) rfl ?_; intro a hf
      refine plan_nil ?_
      replace hf := hf.sel [7, 8, 0, 1, 2] (l' := [(7, _), (8, _), (0, _), (1, _), (2, _)]) rfl
      exact ⟨((lo + hi) / 2 + 1, hi), _, hf.sel [7, 8, 0, 1, 2] rfl, ⟨rfl, by omega, by omega, by omega⟩, hT, by first | omega | (dsimp only; omega)⟩
    · -- else
      have hlt2 : ¬ (lo + hi) / 2 < p := fun hx => hcm (by rw [if_pos (hpm.2 hx)]; decide)
      -- region 6 (buffer.go:68)
      refine wp_reg ([]) ([] ++ rs) [(0, true), (1, true)] mixed (by kernel_rfl) (hT) ?_; intro w hT
      refine rd hf rfl (yl_move rfl) rfl rfl ?_; intro a hf
      refine rw_ hf rfl (yl_assign rfl) rfl (l' := [(8, _), (29, _), (26, _), (9, _), (7, _), (0, _), (1, _), (2, _)]) rfl ?_; intro a hf
      refine plan_nil ?_
      replace hf := hf.sel [8, 7, 0, 1, 2] (l' := [(8, _), (7, _), (0, _), (1, _), (2, _)]) rfl
      exact ⟨(lo, (lo + hi) / 2), _, hf.sel [7, 8, 0, 1, 2] rfl, ⟨rfl, by omega, by omega, by omega⟩, hT, by first | omega | (dsimp only; omega)⟩
  · -- else
    obtain rfl : lo = p := by omega
    refine wpIn_exit ?_
    refine then_exit ?_
    refine then_exit ?_
    refine inBlock_hit ?_
    refine wpIn_seq ?_
    -- region 7 (buffer.go:71)
    refine wp_reg ([]) ([] ++ rs) [(0, true), (1, true)] mixed (by kernel_rfl) (hT) ?_; intro w hT
    refine rd hf rfl (yl_move rfl) rfl rfl ?_; intro a hf
    refine rd hf rfl (yl_assign rfl) rfl rfl ?_; intro a hf
    refine plan_nil ?_
    replace hf := hf.sel [6] (l' := [(6, _)]) rfl
    refine wpIn_ret ?_
    exact body_ret hf (L := []) hT rfl rfl ⟨rfl, rfl⟩
theorem part_ex (m : Int) : ∀ S : List Ch, S.Pairwise (fun x y => x.s ≤ y.s) → ∃ p, p ≤ S.length ∧ ∀ i (hi : i < S.length), (S[i].s ≤ m ↔ i < p)
  | [], _ => ⟨0, Nat.le_refl _, fun i hi => absurd hi (Nat.not_lt_zero _)⟩
  | c :: S, h => by
    obtain ⟨h1, h2⟩ := List.pairwise_cons.1 h
    obtain ⟨p, hp, hq⟩ := part_ex m S h2
    by_cases hc : c.s ≤ m
    · refine ⟨p + 1, by simp; omega, fun i hi => ?_⟩
      cases i with
      | zero => simp [hc]
      | succ i => have := hq i (by simpa using hi); simp only [List.getElem_cons_succ]; omega
    · refine ⟨0, Nat.zero_le _, fun i hi => ?_⟩
      cases i with
      | zero => simp [hc]
      | succ i => have := h1 _ (List.getElem_mem (by simpa using hi : i < S.length)); simp only [List.getElem_cons_succ]; omega
def Bad (x : Pcl) : Prop := (x.sz < 1 ∨ 16777216 < x.sz) ∨ (x.wo < 0 ∨ 1048576 < x.wo)
instance (x : Pcl) : Decidable (Bad x) := by unfold Bad; infer_instance
theorem bad_ok (x : Pcl) : ¬ Bad x ↔ Pok x := ⟨fun h => by unfold Bad at h; exact ⟨by omega, by omega, by omega, by omega⟩, fun h => by obtain ⟨h1, h2, h3, h4⟩ := h; unfold Bad; omega⟩
theorem IndexP_spec {e : Env} {w : World} {rs : List Part} (xs : List Pcl) (v0 : Value) (hE : Els encPl rs v0 xs) (hT : Tot e w rs) : Spec Try.prog 102 #[v0, .func (.func 74) #[] #[]] e w rs (fun v L => ∃ j : Int, v = .int .i64 j ∧ ((j = -1 ∧ ∀ x ∈ xs, ¬ Bad x) ∨ (0 ≤ j ∧ ¬ ∀ x ∈ xs, ¬ Bad x)) ∧ L = []) := by
  refine spec_body Try.func102 rfl Try.ntmps102 rfl rfl ?_
  intro a hf
  refine wpIn_seq ?_
  -- region 0 (slices.go:107)
  refine wp_reg ([]) ([] ++ rs) [(0, true)] mixed (by kernel_rfl) (hT) ?_; intro w hT
  refine rd hf rfl (yl_assign rfl) rfl rfl ?_; intro a hf
  refine plan_nil ?_
  refine wpIn_seq ?_
  refine wpIn_seq ?_
  -- region 1 (slices.go:108)
  refine wp_reg ([]) ([] ++ rs) [(0, true), (1, true), (2, true)] mixed (by kernel_rfl) (hT) ?_; intro w hT
  refine rd hf rfl (yl_move rfl) rfl rfl ?_; intro a hf
  refine rd hf rfl (yl_lenE rfl Try.underlying81 hE.app) rfl rfl ?_; intro a hf
  refine rd hf rfl (yl_move rfl) rfl rfl ?_; intro a hf
  refine plan_nil ?_
  refine wpIn_block ?_
  have hlen0 := hE.len_le
  refine wp_loopS (σ := Nat) (fun k => [(8, .int .i64 (k : Nat))]) [(7, _), (0, _), (1, _)] (fun k L => L = [] ∧ k ≤ xs.length ∧ ∀ m (hm : m < xs.length), m < k → ¬ Bad xs[m]) (fun k => xs.length - k) 0 (L := []) (R := [] ++ rs) (hf.sel [8, 7, 0, 1] rfl) (⟨rfl, Nat.zero_le _, fun m hm h => absurd h (Nat.not_lt_zero _)⟩) hT ?_
  clear hf hT; rintro k a w L hf ⟨rfl, hk, ho⟩ hT
  replace hf : Fr _ [(8, .int .i64 (k : Nat)), (7, _), (0, _), (1, _)] _ _ := hf
  refine wpIn_seq ?_
  -- region 2 (slices.go:108)
  refine wp_reg ([]) ([] ++ rs) [(0, true)] mixed (by kernel_rfl) (hT) ?_; intro w hT
  refine rd hf rfl (yl_cmp rfl rfl rfl) rfl rfl ?_; intro a hf
  refine plan_nil ?_
  refine wpIn_seq ?_
  refine wp_ifd hf rfl (fun hlt => ?_) (fun hlt => ?_)
  · -- then
    have hltk : k < xs.length := by omega
    have hj : xs[k]? = some xs[k] := List.getElem?_eq_getElem hltk
    refine wpIn_skip ?_
    refine wpIn_seq ?_
    refine wpIn_block ?_
    refine wpIn_seq ?_
    -- region 3 (slices.go:108)
    refine wp_reg ([]) ([] ++ rs) [(0, true), (1, true)] mixed (by kernel_rfl) (hT) ?_; intro w hT
    refine rd hf rfl (yl_move rfl) rfl rfl ?_; intro a hf
    refine rd hf rfl (yl_assign rfl) rfl rfl ?_; intro a hf
    refine plan_nil ?_
    refine wpIn_seq ?_
    -- region 4 (slices.go:109)
    refine wp_reg ([]) ([] ++ rs) [(0, true), (1, true), (2, true), (3, true), (4, true), (5, false)] mixed (by kernel_rfl) (hT) ?_; intro w hT
    refine rd hf rfl (yl_move rfl) rfl rfl ?_; intro a hf
    refine rd hf rfl (yl_move rfl) rfl rfl ?_; intro a hf
    refine rd hf rfl (yl_move rfl) rfl rfl ?_; intro a hf
    refine rd hf rfl (yl_indexE rfl rfl Try.underlying81 sz_90 hE.app (by omega) (by omega)) rfl rfl ?_; intro a hf
    refine rd hf rfl (yl_loadA Try.underlying90 rfl sz_90 rfl (hE.app.row hj) rfl) rfl rfl ?_; intro a hf
    refine ef_call hf rfl (wanted_none _ _ rfl) rfl rfl (by kernel_rfl) (Spec.frame (L2 := []) (Best1_spec xs[k] hT)) rfl (l' := [(15, _), (14, _), (13, _), (12, _), (11, _), (5, _), (10, _), (9, _), (8, _), (7, _), (0, _), (1, _)]) rfl ?_; rintro a w v L ⟨L1, ⟨rfl, rfl⟩, rfl⟩ hf hT
    refine plan_nil ?_
    replace hf := hf.sel [16, 5, 8, 7, 0, 1] (l' := [(16, _), (5, _), (8, _), (7, _), (0, _), (1, _)]) rfl
    refine wp_ifd hf rfl (fun hbad => ?_) (fun hbad => ?_)
    · -- then
      refine wpIn_seq ?_
      -- region 5 (slices.go:110)
      refine wp_reg ([]) ([] ++ rs) [(0, true), (1, true)] mixed (by kernel_rfl) (hT) ?_; intro w hT
      refine rd hf rfl (yl_move rfl) rfl rfl ?_; intro a hf
      refine rd hf rfl (yl_assign rfl) rfl rfl ?_; intro a hf
      refine plan_nil ?_
      replace hf := hf.sel [4] (l' := [(4, _)]) rfl
      refine wpIn_ret ?_
      exact body_ret hf (L := []) hT rfl rfl ⟨_, rfl, .inr ⟨by omega, fun h => hbad |> fun hb => h _ (List.getElem_mem hltk) hb⟩, rfl⟩
    · -- else
      refine wpIn_skip ?_
      -- region 6 (slices.go:108)
      refine wp_reg ([]) ([] ++ rs) [(0, true), (1, true)] mixed (by kernel_rfl) (hT) ?_; intro w hT
      refine rd hf rfl (yl_add rfl rfl (by unfold inI64; omega)) rfl rfl ?_; intro a hf
      refine rw_ hf rfl (yl_move rfl) rfl (l' := [(8, _), (18, _), (16, _), (5, _), (7, _), (0, _), (1, _)]) rfl ?_; intro a hf
      refine plan_nil ?_
      replace hf := hf.sel [8, 7, 0, 1] (l' := [(8, _), (7, _), (0, _), (1, _)]) rfl
      exact ⟨k + 1, _, hf.sel [8, 7, 0, 1] rfl, ⟨rfl, by omega, fun m hm h => by by_cases hmk : m = k; subst hmk; exact hbad; exact ho m hm (by omega)⟩, hT, by first | omega | (dsimp only; omega)⟩
  · -- else
    obtain rfl : k = xs.length := by omega
    refine wpIn_exit ?_
    refine then_exit ?_
    refine then_exit ?_
    refine inBlock_hit ?_
    refine wpIn_seq ?_
    -- region 7 (slices.go:113)
    refine wp_reg ([]) ([] ++ rs) [(0, true)] mixed (by kernel_rfl) (hT) ?_; intro w hT
    refine rd hf rfl (yl_assign rfl) rfl rfl ?_; intro a hf
    refine plan_nil ?_
    replace hf := hf.sel [4] (l' := [(4, _)]) rfl
    refine wpIn_ret ?_
    exact body_ret hf (L := []) hT rfl rfl ⟨_, rfl, .inl ⟨rfl, fun x hx => by obtain ⟨m, hm, rfl⟩ := List.getElem_of_mem hx; exact ho m hm hm⟩, rfl⟩
instance (x : Pcl) : Decidable (Pok x) := decidable_of_iff _ (bad_ok x)
theorem ContP_spec {e : Env} {w : World} {rs : List Part} (xs : List Pcl) (v0 : Value) (hE : Els encPl rs v0 xs) (hT : Tot e w rs) : Spec Try.prog 73 #[v0, .func (.func 74) #[] #[]] e w rs (fun v L => v = .bool (decide (¬ ∀ x ∈ xs, Pok x)) ∧ L = []) := by
  refine spec_body Try.func73 rfl Try.ntmps73 rfl rfl ?_
  intro a hf
  refine wpIn_seq ?_
  -- region 0 (slices.go:124)
  refine wp_reg ([]) ([] ++ rs) [(0, true)] mixed (by kernel_rfl) (hT) ?_; intro w hT
  refine rd hf rfl (yl_assign rfl) rfl rfl ?_; intro a hf
  refine plan_nil ?_
  refine wpIn_seq ?_
  -- region 1 (slices.go:125)
  refine wp_reg ([]) ([] ++ rs) [(0, true), (1, true), (2, false), (3, true), (4, true)] mixed (by kernel_rfl) (hT) ?_; intro w hT
  refine rd hf rfl (yl_move rfl) rfl rfl ?_; intro a hf
  refine rd hf rfl (yl_move rfl) rfl rfl ?_; intro a hf
  refine ef_call hf rfl (wanted_none _ _ rfl) rfl rfl (by kernel_rfl) (Spec.frame (L2 := []) (IndexP_spec xs v0 hE.app hT)) rfl (l' := [(6, _), (5, _), (4, _), (0, _), (1, _)]) rfl ?_; rintro a w v L ⟨L1, ⟨j, rfl, hj, rfl⟩, rfl⟩ hf hT
  refine rd hf rfl (yl_cmp rfl rfl rfl) rfl rfl ?_; intro a hf
  refine rw_ hf rfl (yl_assign rfl) rfl (l' := [(4, _), (8, _), (7, _), (6, _), (5, _), (0, _), (1, _)]) rfl ?_; intro a hf
  refine plan_nil ?_
  replace hf := hf.sel [4] (l' := [(4, _)]) rfl
  refine wpIn_ret ?_
  exact body_ret hf (L := []) hT rfl rfl ⟨congrArg Value.bool (decide_eq_decide.2 ⟨fun h => by rcases hj with ⟨h1, _⟩ | ⟨_, h2⟩; omega; exact fun h3 => h2 fun x hx => (bad_ok x).2 (h3 x hx), fun h => by rcases hj with ⟨_, h2⟩ | ⟨h1, _⟩; exact absurd (fun x hx => (bad_ok x).1 (h2 x hx)) h; exact h1⟩), rfl⟩
theorem CloneC_spec {e : Env} {w : World} {rs : List Part} (xs : List Ch) (v0 : Value) (hE : Els encCh rs v0 xs) (hlen : xs.length ≤ 8192) (hT : Tot e w rs) : Spec Try.prog 79 #[v0] e w rs (fun v L => ∃ X, Sl encCh 139 v xs X ∧ L = [X]) := by
  refine spec_body Try.func79 rfl Try.ntmps79 rfl rfl ?_
  intro a hf
  obtain ⟨A, c, rfl, hA, hle⟩ := hE.shape
  refine wpIn_seq ?_
  -- region 0 (slices.go:355)
  refine wp_reg ([]) ([] ++ rs) [(0, true)] mixed (by kernel_rfl) (hT) ?_; intro w hT
  refine rd hf rfl (yl_assign rfl) rfl rfl ?_; intro a hf
  refine plan_nil ?_
  refine wpIn_seq ?_
  refine wpIn_seq ?_
  -- region 1 (slices.go:357)
  refine wp_reg ([]) ([] ++ rs) [(0, true), (1, true)] mixed (by kernel_rfl) (hT) ?_; intro w hT
  refine rd hf rfl (yl_move rfl) rfl rfl ?_; intro a hf
  refine rd hf rfl (yl_sliceNil rfl rfl Try.underlying135 rfl) rfl rfl ?_; intro a hf
  refine plan_nil ?_
  refine wp_if hf rfl (fun hnil => ?_) (fun hnil => ?_)
  · -- then
    have hx0 : xs = [] := by cases xs with | nil => rfl | cons x l => obtain ⟨b, o, h⟩ := hA (by simp); rw [h] at hnil; cases hnil
    subst hx0
    refine wpIn_seq ?_
    -- region 2 (slices.go:358)
    refine wp_reg ([]) ([] ++ rs) [(0, true)] mixed (by kernel_rfl) (hT) ?_; intro w hT
    refine rw_ hf rfl (yl_assign rfl) rfl (l' := [(2, _), (4, _), (3, _), (0, _)]) rfl ?_; intro a hf
    refine plan_nil ?_
    replace hf := hf.sel [2] (l' := [(2, _)]) rfl
    refine wpIn_ret ?_
    replace hT := hT.emp
    exact body_ret hf (L := [_]) hT rfl rfl ⟨_, sl_nil, rfl⟩
  · -- else
    refine wpIn_skip ?_
    refine wpIn_seq ?_
    -- region 3 (slices.go:362)
    refine wp_reg ([]) ([] ++ rs) [(0, false), (1, true), (2, false), (3, true)] mixed (by kernel_rfl) (hT) ?_; intro w hT
    refine ef hf hT rfl rfl (ef_buildSlice0 (E := encCh) Try.underlying135 zs_139) rfl (l' := [(4, _), (3, _), (2, _), (0, _)]) rfl ?_; rintro a w e0 L ⟨b1, p1, hvp1, hp1, rfl⟩ hf hT
    refine rd hf rfl (yl_move rfl) rfl rfl ?_; intro a hf
    refine ef hf hT rfl rfl (ef_append (E := encCh) (L := []) rfl rfl Try.underlying135 zb_139 rfl hp1 (hE.app) (by simp; omega) (by simp [maxLen]; omega)) rfl (l' := [(6, _), (5, _), (4, _), (3, _), (2, _), (0, _)]) rfl ?_; rintro a w q L ⟨X1, hS1, rfl⟩ hf hT
    refine rw_ hf rfl (yl_assign rfl) rfl (l' := [(2, _), (7, _), (6, _), (5, _), (4, _), (3, _), (0, _)]) rfl ?_; intro a hf
    refine plan_nil ?_
    replace hf := hf.sel [2] (l' := [(2, _)]) rfl
    refine wpIn_ret ?_
    exact body_ret hf (L := [_]) (hT) rfl rfl ⟨_, by simpa [retv] using hS1, rfl⟩
open Go.Sort
def cfS (c d : Ch) : Int := sgn c.s d.s
theorem cfS_lt (c d : Ch) : ltOf cfS c d = decide (c.s < d.s) := by
  unfold ltOf cfS sgn
  by_cases h1 : c.s < d.s
  · simp [h1]
  · by_cases h2 : d.s < c.s <;> simp [h1, h2] <;> omega
theorem cfS_swo : SWO (ltOf cfS) := ⟨fun x => by rw [cfS_lt]; simp, fun x y z h1 h2 => by rw [cfS_lt] at *; simp at *; omega, fun x y z h1 h2 => by rw [cfS_lt] at *; simp at *; omega⟩
theorem SortC_spec {e : Env} {w : World} {R : List Part} {v : Value} {xs : List Ch} {X : Part} (hS : Sl encCh 139 v xs X) (hlen : xs.length ≤ 8192) (hT : Tot e w ([X] ++ R)) : Spec Try.prog 76 #[v, .func (.func 77) #[] #[]] e w R (fun v' L' => v' = .tuple #[] ∧ ∃ ys X', ys.Perm xs ∧ ys.Pairwise (fun x y => x.s ≤ y.s) ∧ Sl encCh 139 v ys X' ∧ L' = [X']) :=
  (sortFunc_spec Try.sortChoice (E := encCh) Try.isAgg139 Try.sizeOf139 cfS cfS_swo 77 #[] (fun args w => run_callFunc (by kernel_rfl) args w) hS (by omega) (fun e w rs x y h => Best2_spec x y h) hT).mono fun v' L' h => by
    obtain ⟨h1, ys, X', hp, hs, hS', hL⟩ := h
    refine ⟨h1, ys, X', hp, hs.imp fun {a b} h => ?_, hS', hL⟩
    unfold cfS sgn at h
    by_cases h3 : b.s < a.s
    · rw [if_pos h3] at h; omega
    · omega
end Go.Proofs.Ytjhbgciocffihaa
