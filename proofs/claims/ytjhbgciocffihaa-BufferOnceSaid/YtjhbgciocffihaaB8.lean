-- written by gen.py out of walks texts of my own
import Derived.Test.YtjhbgciocffihaaB7
set_option linter.unusedVariables false
set_option linter.unusedSimpArgs false
set_option maxHeartbeats 4000000
namespace Go.Proofs.Ytjhbgciocffihaa
theorem ef_read {P : Program} {R L : List Part} {l : List (Nat × Value)} {ty : TypeId} {e : Env} {op : Op} {v : Value} (h : Yl P (L ++ R) l op ty v) : Ef P e l op ty L R (fun v' L' => v = v' ∧ L' = L) :=
  fun a w ha hT dst pos after guard => ⟨v, w, L, h a w ha hT.all dst pos after guard, ⟨rfl, rfl⟩, hT⟩
theorem compress2_spec {e : Env} {w : World} {rs : List Part} (b : Nat) (s : BS) (vo : Value) (Lb : List Part) (hB : BufM b s vo Lb) (hE : Els encI rs vo (ids s.L)) (hI : Inv s) (hl : s.L.length ≤ 257) (hT : Tot e w (Lb ++ rs)) : Spec Try.prog 52 #[.pointer (some ⟨b, 0, none⟩)] e w rs (fun v L => v = .bool (squeeze s.L).isSome ∧ BufM b (sqz s) vo L) := by
  have hu := sumB_rng hI.ok
  rw [← hI.us] at hu
  refine (compress_spec b s vo Lb hB hE hI.nd hI.ok ⟨by omega, by omega⟩ hT).mono fun v L h => ?_
  cases hq : squeeze s.L with
  | none => rw [hq] at h; rw [sqz_none hq]; exact h
  | some x => rw [hq] at h; simp only [sqz, hq]; exact h
theorem Sl.cut {α : Type} {E : Enc α} {T : TypeId} {A : Option Addr} {c : Nat} {xs : List α} {x : Part} (h : Sl E T (.slice A xs.length c) xs x) {H : Nat} (hH : H ≤ xs.length) : Sl E T (.slice (if c = 0 then A else A.map (·.add (0 * E.sz))) (H - 0) (c - 0)) (xs.take H) x := by
  rcases h with ⟨h1, rfl, rfl⟩ | ⟨b, c', cs, h1, rfl, h2, h3, h4, h5⟩
  · simp only [Value.slice.injEq] at h1
    obtain ⟨rfl, h1, rfl⟩ := h1
    have : H = 0 := by simpa using hH
    subst this
    exact .inl ⟨rfl, by simp, rfl⟩
  · simp only [Value.slice.injEq, true_and] at h1
    obtain ⟨rfl, rfl⟩ := h1
    refine .inr ⟨b, c, cs, ?_, rfl, by simp; omega, h3, h4, ?_⟩
    · have : (xs.take H).length = H := by simp; omega
      rw [this]
      have e0 : (⟨b, 0, none⟩ : Addr).add (0 * E.sz) = ⟨b, 0, none⟩ := by rw [add_at]; simp
      split <;> simp [add_at]
    · have e1 : (xs.take H).length * E.sz ≤ xs.length * E.sz := Nat.mul_le_mul_right _ (by simp; omega)
      have : E.all xs = E.all (xs.take H) ++ E.all (xs.drop H) := by rw [← E.all_append, List.take_append_drop]
      rw [this] at h5
      have h6 := congrArg (List.take ((xs.take H).length * E.sz)) h5
      rw [List.take_take, Nat.min_eq_left e1, ← E.all_length, List.take_left] at h6
      rw [← E.all_length]; exact h6
theorem ids_sqz (s : BS) : ids (sqz s).L = ids s.L := by unfold sqz; split; exact ids_mark _ _; rfl
theorem len_sqz (s : BS) : (sqz s).L.length = s.L.length := by have := congrArg List.length (ids_sqz s); simpa [ids] using this
theorem Goes.sq {s0 s s1 : BS} {d : List Int} (h : Goes s0 s d) (h1 : Turn s s1 []) : Goes s0 s1 d := by have := h.step h1; simpa using this
theorem last_of_full {s : BS} (hI : Inv s) (h : Full s) : ∃ x, s.L.getLast? = some x := by
  cases hq : s.L.getLast? with
  | some x => exact ⟨x, rfl⟩
  | none =>
    exfalso
    have h0 := List.getLast?_eq_none_iff.1 hq
    have h1 := hI.us
    have h2 := hI.cp
    rw [h0] at h1
    have h3 : s.used = 0 := h1
    rcases h with h | h
    · omega
    · rw [h0] at h; simp at h
theorem mem4 {α : Type} {x a b c d : α} (h : x ∈ [a, b, c, d]) : x = a ∨ x = b ∨ x = c ∨ x = d := by simpa using h
theorem Put_spec {e : Env} {w : World} {rs : List Part} (b : Nat) (s : BS) (vo : Value) (x0 : Part) (Lb : List Part) (hS : Sl encI 2 vo (ids s.L) x0) (hB : BufM b s vo Lb) (hI : Inv s) (hlen : s.L.length ≤ 256) (r : Rec) (hT : Tot e w ((x0 :: Lb) ++ rs)) : Spec Try.prog 15 #[.pointer (some ⟨b, 0, none⟩), encR r] e w rs (fun v L => if ¬ r.Ok then v = .tuple #[.slice none 0 0, .int .i64 2] ∧ BufR b s L else if r.id ∈ ids s.L then v = .tuple #[.slice none 0 0, .int .i64 12] ∧ BufR b s L else if s.cap < r.packed then v = .tuple #[.slice none 0 0, .int .i64 14] ∧ BufR b s L else ∃ s' d q X Lb', v = .tuple #[q, .int .i64 0] ∧ Sl encI 2 q d X ∧ BufR b s' Lb' ∧ L = X :: Lb' ∧ Goes (insB s r) s' d ∧ ¬ Full s') := by
  refine spec_body Try.func15 rfl Try.ntmps15 rfl rfl ?_
  intro a hf
  have hB0 := hB
  obtain ⟨br, xr, bs, xs, bt, xt, mr, ms, mt, rfl, hMr, hMs, hMt, hM⟩ := hB
  refine wpIn_seq ?_
  -- region 0 (buffer.go:105)
  refine wp_reg ([]) ([_, _, _, _, _] ++ rs) [(0, false), (1, false), (2, true), (3, true)] mixed (by kernel_rfl) (hT) ?_; intro w hT
  refine ef hf hT rfl rfl (ef_box rfl) rfl (l' := [(0, _), (1, _)]) rfl ?_; rintro a w v L ⟨b1, rfl, rfl⟩ hf hT
  refine ef hf hT rfl rfl (ef_box rfl) rfl (l' := [(2, _), (0, _), (1, _)]) rfl ?_; rintro a w v L ⟨b2, rfl, rfl⟩ hf hT
  refine rd hf rfl (yl_assign rfl) rfl rfl ?_; intro a hf
  refine rd hf rfl (yl_assign rfl) rfl rfl ?_; intro a hf
  refine plan_nil ?_
  replace hf := hf.sel [3, 2] (l' := [(3, _), (2, _)]) rfl
  refine wpIn_seq ?_
  refine wpIn_seq ?_
  -- region 1 (buffer.go:106)
  refine wp_reg ([]) ([_, _, _, _, _, _, _] ++ rs) [(0, true), (1, false), (2, true)] mixed (by kernel_rfl) (hT) ?_; intro w hT
  refine rd hf rfl (yl_load Try.underlying25 rfl rfl ⟨_, .tail _ (.head _), _, _, _, pt_self _ _, rfl⟩) rfl rfl ?_; intro a hf
  refine ef_call hf rfl (wanted_none _ _ rfl) rfl rfl (by kernel_rfl) (Spec.frame (L2 := []) (valid_spec b s vo (hB0.inn (fun x hx => by rcases mem4 hx with rfl | rfl | rfl | rfl; exact .tail _ (.tail _ (.tail _ (.head _))); exact .tail _ (.tail _ (.tail _ (.tail _ (.head _)))); exact .tail _ (.tail _ (.tail _ (.tail _ (.tail _ (.head _))))); exact .tail _ (.tail _ (.tail _ (.tail _ (.tail _ (.tail _ (.head _)))))))) hT)) rfl (l' := [(13, _), (3, _), (2, _)]) rfl ?_; rintro a w v L ⟨L1, ⟨rfl, rfl⟩, rfl⟩ hf hT
  refine rd hf rfl (yl_not rfl) rfl rfl ?_; intro a hf
  refine plan_nil ?_
  refine wp_ifFF hf rfl (rfl) ?_
  refine wpIn_skip ?_
  refine wpIn_seq ?_
  refine wpIn_seq ?_
  -- region 3 (buffer.go:109)
  refine wp_reg ([]) ([_, _, _, _, _, _, _] ++ rs) [(0, true), (1, false), (2, true)] mixed (by kernel_rfl) (hT) ?_; intro w hT
  refine rd hf rfl (yl_loadB Try.underlying31 rfl sz_31 (vs := r.cells) (.head _) rfl (pt_self _ _) rfl rfl) rfl rfl ?_; intro a hf
  refine ef_call hf rfl (wanted_none _ _ rfl) rfl rfl (by kernel_rfl) (Spec.frame (L2 := []) (Check_spec r hT)) rfl (l' := [(16, _), (15, _), (14, _), (13, _), (3, _), (2, _)]) rfl ?_; rintro a w v L ⟨L1, ⟨rfl, rfl⟩, rfl⟩ hf hT
  refine rd hf rfl (yl_assign rfl) rfl rfl ?_; intro a hf
  refine plan_nil ?_
  replace hf := hf.sel [6, 3, 2] (l' := [(6, _), (3, _), (2, _)]) rfl
  refine wpIn_seq ?_
  -- region 4 (buffer.go:109)
  refine wp_reg ([]) ([_, _, _, _, _, _, _] ++ rs) [(0, true), (1, true)] mixed (by kernel_rfl) (hT) ?_; intro w hT
  refine rd hf rfl (yl_move rfl) rfl rfl ?_; intro a hf
  refine rd hf rfl (yl_cmp rfl rfl rfl) rfl rfl ?_; intro a hf
  refine plan_nil ?_
  refine wp_ifd hf rfl (fun hok => ?_) (fun hok => ?_)
  · -- then
    have hok' : ¬ r.Ok := fun h => hok (by rw [if_pos h])
    refine wpIn_seq ?_
    -- region 5 (buffer.go:110)
    refine wp_reg ([]) ([_, _, _, _, _, _, _] ++ rs) [(0, true), (1, true), (2, true)] mixed (by kernel_rfl) (hT) ?_; intro w hT
    refine rd hf rfl (yl_move rfl) rfl rfl ?_; intro a hf
    refine rd hf rfl (yl_assign rfl) rfl rfl ?_; intro a hf
    refine rd hf rfl (yl_assign rfl) rfl rfl ?_; intro a hf
    refine plan_nil ?_
    replace hf := hf.sel [5, 4] (l' := [(5, _), (4, _)]) rfl
    refine wpIn_ret ?_
    refine body_ret hf (L := [_, _, _, _, _]) ((hT.brings [1, 1]).tail.tail) rfl rfl ?_
    rw [if_pos hok', if_neg hok']; exact ⟨rfl, vo, _, _, rfl, hS, hB0⟩
  · -- else
    have hrok : r.Ok := by by_cases h : r.Ok; exact h; exact absurd (by rw [if_neg h]; decide) hok
    refine wpIn_skip ?_
    refine wpIn_seq ?_
    refine wpIn_seq ?_
    -- region 6 (buffer.go:112)
    refine wp_reg ([]) ([_, _, _, _, _, _, _] ++ rs) [(0, true), (1, true), (2, true), (3, true), (4, true), (5, true), (6, true), (7, true), (8, true), (9, true), (10, false), (11, false), (12, true)] mixed (by kernel_rfl) (hT) ?_; intro w hT
    refine rd hf rfl (yl_load Try.underlying25 rfl rfl ⟨_, .tail _ (.head _), _, _, _, pt_self _ _, rfl⟩) rfl rfl ?_; intro a hf
    refine rd hf rfl (yl_nil rfl) rfl rfl ?_; intro a hf
    refine rd hf rfl (yl_faddr Try.underlying106 rfl rfl sz_29 (k := 4) rfl) rfl rfl ?_; intro a hf
    refine rd hf rfl (yl_load Try.underlying29 rfl rfl ⟨_, .tail _ (.tail _ (.tail _ (.head _))), _, _, _, pt_self _ _, rfl⟩) rfl rfl ?_; intro a hf
    refine rd hf rfl (yl_faddr Try.underlying31 rfl rfl sz_2 (k := 0) rfl) rfl rfl ?_; intro a hf
    refine rd hf rfl (yl_load Try.underlying2 rfl rfl ⟨_, .head _, _, _, _, pt_self _ _, rfl⟩) rfl rfl ?_; intro a hf
    refine rd hf rfl (yl_lookupOkE kI Try.underlying29 zr_31 rfl rfl ⟨_, .tail _ (.tail _ (.tail _ (.tail _ (.head _)))), hMr⟩ (show _ = encR (((fnd s.L r.id).map (·.r)).getD ⟨0, 0, 0, 0, 0⟩) from by rw [hM.r]; cases fnd s.L r.id <;> rfl) (show _ = (fnd s.L r.id).isSome from by rw [hM.r]; cases fnd s.L r.id <;> rfl)) rfl rfl ?_; intro a hf
    refine rd hf rfl (yl_move rfl) rfl rfl ?_; intro a hf
    refine rd hf rfl (yl_extract rfl rfl) rfl rfl ?_; intro a hf
    refine rd hf rfl (yl_extract rfl rfl) rfl rfl ?_; intro a hf
    refine ef hf hT rfl rfl (ef_alloc zr_31) rfl (l' := [(30, _), (29, _), (21, _), (28, _), (27, _), (26, _), (25, _), (24, _), (23, _), (22, _), (19, _), (18, _), (6, _), (3, _), (2, _)]) rfl ?_; rintro a w v L ⟨b3, rfl, rfl⟩ hf hT
    refine efS hf hT rfl rfl (ef_storeW rfl rfl sz_31 rfl rfl rfl) ?_; rintro w L rfl hT
    refine rd hf rfl (yl_assign rfl) rfl rfl ?_; intro a hf
    refine plan_nil ?_
    replace hf := hf.sel [8, 3, 2] (l' := [(8, _), (3, _), (2, _)]) rfl
    refine wpIn_seq ?_
    -- region 7 (buffer.go:112)
    refine wp_reg ([]) ([_, _, _, _, _, _, _, _] ++ rs) [(0, true)] mixed (by kernel_rfl) (hT) ?_; intro w hT
    refine rd hf rfl (yl_move rfl) rfl rfl ?_; intro a hf
    refine plan_nil ?_
    refine wp_if hf rfl (fun hfd => ?_) (fun hfd => ?_)
    · -- then
      have hin : r.id ∈ ids s.L := Classical.byContradiction fun h => by rw [fnd_none.2 h] at hfd; cases hfd
      refine wpIn_seq ?_
      -- region 8 (buffer.go:113)
      refine wp_reg ([]) ([_, _, _, _, _, _, _, _] ++ rs) [(0, true), (1, true)] mixed (by kernel_rfl) (hT) ?_; intro w hT
      refine rd hf rfl (yl_assign rfl) rfl rfl ?_; intro a hf
      refine rd hf rfl (yl_assign rfl) rfl rfl ?_; intro a hf
      refine plan_nil ?_
      replace hf := hf.sel [5, 4] (l' := [(5, _), (4, _)]) rfl
      refine wpIn_ret ?_
      refine body_ret hf (L := [_, _, _, _, _]) ((hT.brings [2, 2, 2]).tail.tail.tail) rfl rfl ?_
      rw [if_neg (not_not_intro hrok), if_pos hin]; exact ⟨rfl, vo, _, _, rfl, hS, hB0⟩
    · -- else
      have hnin : r.id ∉ ids s.L := fnd_none.1 (by simpa using hfd)
      refine wpIn_skip ?_
      refine wpIn_seq ?_
      refine wpIn_seq ?_
      -- region 9 (buffer.go:115)
      refine wp_reg ([]) ([_, _, _, _, _, _, _, _] ++ rs) [(0, true), (1, true), (2, true), (3, true), (4, true), (5, true), (6, true)] mixed (by kernel_rfl) (hT) ?_; intro w hT
      refine rd hf rfl (yl_faddr Try.underlying31 rfl rfl sz_2 (k := 4) rfl) rfl rfl ?_; intro a hf
      refine rd hf rfl (yl_load Try.underlying2 rfl rfl ⟨_, .tail _ (.head _), _, _, _, pt_self _ _, rfl⟩) rfl rfl ?_; intro a hf
      refine rd hf rfl (yl_load Try.underlying25 rfl rfl ⟨_, .tail _ (.tail _ (.head _)), _, _, _, pt_self _ _, rfl⟩) rfl rfl ?_; intro a hf
      refine rd hf rfl (yl_nil rfl) rfl rfl ?_; intro a hf
      refine rd hf rfl (yl_faddr Try.underlying106 rfl rfl sz_2 (k := 0) rfl) rfl rfl ?_; intro a hf
      refine rd hf rfl (yl_load Try.underlying2 rfl rfl ⟨_, .tail _ (.tail _ (.tail _ (.tail _ (.head _)))), _, _, _, pt_self _ _, rfl⟩) rfl rfl ?_; intro a hf
      refine rd hf rfl (yl_cmp rfl rfl rfl) rfl rfl ?_; intro a hf
      refine plan_nil ?_
      replace hf := hf.sel [38, 3, 2] (l' := [(38, _), (3, _), (2, _)]) rfl
      refine wp_ifd hf rfl (fun hcp => ?_) (fun hcp => ?_)
      · -- then
        refine wpIn_seq ?_
        -- region 10 (buffer.go:116)
        refine wp_reg ([]) ([_, _, _, _, _, _, _, _] ++ rs) [(0, true), (1, true)] mixed (by kernel_rfl) (hT) ?_; intro w hT
        refine rd hf rfl (yl_assign rfl) rfl rfl ?_; intro a hf
        refine rd hf rfl (yl_assign rfl) rfl rfl ?_; intro a hf
        refine plan_nil ?_
        replace hf := hf.sel [5, 4] (l' := [(5, _), (4, _)]) rfl
        refine wpIn_ret ?_
        refine body_ret hf (L := [_, _, _, _, _]) ((hT.brings [2, 2, 2]).tail.tail.tail) rfl rfl ?_
        rw [if_neg (not_not_intro hrok), if_neg hnin, if_pos hcp]; exact ⟨rfl, vo, _, _, rfl, hS, hB0⟩
      · -- else
        have hri := hI.ins hrok hnin
        have hrk := hrok
        obtain ⟨k1, k2, k3, k4, k5, k6, k7, k8, k9, k10⟩ := hrk
        have hus := sumB_rng hI.ok
        rw [← hI.us] at hus
        have hln0 : (ids s.L).length = s.L.length := by simp [ids]
        refine wpIn_skip ?_
        refine wpIn_seq ?_
        -- region 11 (buffer.go:118)
        refine wp_reg ([]) ([_, _, _, _, _, _, _, _] ++ rs) [(0, true), (1, true), (2, true), (3, true), (4, true), (5, true), (6, false), (7, true)] mixed (by kernel_rfl) (hT) ?_; intro w hT
        refine rd hf rfl (yl_load Try.underlying25 rfl rfl ⟨_, .tail _ (.tail _ (.head _)), _, _, _, pt_self _ _, rfl⟩) rfl rfl ?_; intro a hf
        refine rd hf rfl (yl_nil rfl) rfl rfl ?_; intro a hf
        refine rd hf rfl (yl_faddr Try.underlying106 rfl rfl sz_37 (k := 3) rfl) rfl rfl ?_; intro a hf
        refine rd hf rfl (yl_load Try.underlying37 rfl rfl ⟨_, .tail _ (.tail _ (.tail _ (.tail _ (.head _)))), _, _, _, pt_self _ _, rfl⟩) rfl rfl ?_; intro a hf
        refine rd hf rfl (yl_loadB Try.underlying31 rfl sz_31 (vs := r.cells) (.tail _ (.head _)) rfl (pt_self _ _) rfl rfl) rfl rfl ?_; intro a hf
        refine rd hf rfl (yl_func rfl) rfl rfl ?_; intro a hf
        refine ef_call hf rfl (wanted_none _ _ rfl) rfl rfl (by kernel_rfl) (Spec.frame (L2 := []) (place_spec b1 b s vo (RowIn.of_block (.tail _ (.tail _ (.head _))) (pt_self _ _) (fun j hj => by simp at hj; obtain rfl : j = 0 := (by omega); rfl)) (hB0.inn (fun x hx => by rcases mem4 hx with rfl | rfl | rfl | rfl; exact .tail _ (.tail _ (.tail _ (.tail _ (.head _)))); exact .tail _ (.tail _ (.tail _ (.tail _ (.tail _ (.head _))))); exact .tail _ (.tail _ (.tail _ (.tail _ (.tail _ (.tail _ (.head _)))))); exact .tail _ (.tail _ (.tail _ (.tail _ (.tail _ (.tail _ (.tail _ (.head _))))))))) (hS.els (.tail _ (.tail _ (.tail _ (.head _))))) hI.nd (by omega) r (pos s.L r) (pos_le _ _) (pos_part hI.srt r) hT)) rfl (l' := [(44, _), (43, _), (42, _), (41, _), (40, _), (39, _), (38, _), (3, _), (2, _)]) rfl ?_; rintro a w v L ⟨L1, ⟨rfl, rfl⟩, rfl⟩ hf hT
        refine rd hf rfl (yl_assign rfl) rfl rfl ?_; intro a hf
        refine plan_nil ?_
        replace hf := hf.sel [9, 3, 2] (l' := [(9, _), (3, _), (2, _)]) rfl
        refine wpIn_seq ?_
        -- region 12 (buffer.go:119)
        refine wp_reg ([_]) ([_, _, _, _, _, _, _] ++ rs) [(0, true), (1, true), (2, true), (3, true), (4, true), (5, true), (6, true), (7, true), (8, false), (9, false), (10, true), (11, true), (12, false)] mixed (by kernel_rfl) (hT.brings [3]) ?_; intro w hT
        refine rd hf rfl (yl_load Try.underlying25 rfl rfl ⟨_, .tail _ (.tail _ (.head _)), _, _, _, pt_self _ _, rfl⟩) rfl rfl ?_; intro a hf
        refine rd hf rfl (yl_load Try.underlying25 rfl rfl ⟨_, .tail _ (.tail _ (.head _)), _, _, _, pt_self _ _, rfl⟩) rfl rfl ?_; intro a hf
        refine rd hf rfl (yl_nil rfl) rfl rfl ?_; intro a hf
        refine rd hf rfl (yl_faddr Try.underlying106 rfl rfl sz_37 (k := 3) rfl) rfl rfl ?_; intro a hf
        refine rd hf rfl (yl_load Try.underlying37 rfl rfl ⟨_, .tail _ (.tail _ (.tail _ (.head _))), _, _, _, pt_self _ _, rfl⟩) rfl rfl ?_; intro a hf
        refine rd hf rfl (yl_move rfl) rfl rfl ?_; intro a hf
        refine rd hf rfl (yl_faddr Try.underlying31 rfl rfl sz_2 (k := 0) rfl) rfl rfl ?_; intro a hf
        refine rd hf rfl (yl_load Try.underlying2 rfl rfl ⟨_, .tail _ (.head _), _, _, _, pt_self _ _, rfl⟩) rfl rfl ?_; intro a hf
        refine ef hf hT rfl rfl (ef_buildSlice (E := encI) (xs := [r.id]) rfl rfl Try.underlying37 zs_2 rfl (by decide) rfl (by decide)) rfl (l' := [(53, _), (52, _), (51, _), (50, _), (49, _), (48, _), (47, _), (46, _), (9, _), (3, _), (2, _)]) rfl ?_; rintro a w one L ⟨b4, p1, hvp1, hp1, rfl⟩ hf hT
        replace hT : Tot _ _ ([_, _] ++ ([_, _, _, _, _, _, _] ++ rs)) := hT.bring 1
        refine ef_call hf rfl (wanted_none _ _ rfl) rfl rfl (by kernel_rfl) (Spec.frame (L2 := []) (Insert_spec (ids s.L) (pos s.L r) r.id vo one _ _ hS hp1 (by rw [hln0]; exact pos_le _ _) (by omega) hT)) rfl (l' := [(54, _), (53, _), (52, _), (51, _), (50, _), (49, _), (48, _), (47, _), (46, _), (9, _), (3, _), (2, _)]) rfl ?_; rintro a w vins L ⟨L1, ⟨X2, hS2, rfl⟩, rfl⟩ hf hT
        rw [← ins_ids] at hS2
        obtain ⟨A2, c2, hv2, hc2⟩ := hS2.shape
        refine rd hf rfl (yl_nil rfl) rfl rfl ?_; intro a hf
        refine rd hf rfl (yl_faddr Try.underlying106 rfl rfl sz_37 (k := 3) rfl) rfl rfl ?_; intro a hf
        replace hT : Tot _ _ ([_, _] ++ ([_, _, _, _, _, _] ++ rs)) := hT.bring 4
        refine efS_last hf hT rfl rfl (by kernel_rfl) (ef_store rfl rfl sz_37 (by rw [show (55, vins).2 = vins from rfl, hv2]; rfl) rfl) ?_; rintro w L rfl hT
        replace hf := hf.sel [3, 2] (l' := [(3, _), (2, _)]) rfl
        refine wpIn_seq ?_
        -- region 13 (buffer.go:120)
        refine wp_reg ([]) ([_, _, _, _, _, _, _, _] ++ rs) [(0, true), (1, true), (2, true), (3, true), (4, true), (5, true), (6, true), (7, false)] mixed (by kernel_rfl) (hT) ?_; intro w hT
        refine rd hf rfl (yl_load Try.underlying25 rfl rfl ⟨_, .tail _ (.tail _ (.tail _ (.tail _ (.head _)))), _, _, _, pt_self _ _, rfl⟩) rfl rfl ?_; intro a hf
        refine rd hf rfl (yl_nil rfl) rfl rfl ?_; intro a hf
        refine rd hf rfl (yl_faddr Try.underlying106 rfl rfl sz_29 (k := 4) rfl) rfl rfl ?_; intro a hf
        refine rd hf rfl (yl_load Try.underlying29 rfl rfl ⟨_, .head _, _, _, _, pt_self _ _, rfl⟩) rfl rfl ?_; intro a hf
        refine rd hf rfl (yl_faddr Try.underlying31 rfl rfl sz_2 (k := 0) rfl) rfl rfl ?_; intro a hf
        refine rd hf rfl (yl_load Try.underlying2 rfl rfl ⟨_, .tail _ (.tail _ (.tail _ (.head _))), _, _, _, pt_self _ _, rfl⟩) rfl rfl ?_; intro a hf
        refine rd hf rfl (yl_loadB Try.underlying31 rfl sz_31 (vs := r.cells) (.tail _ (.tail _ (.tail _ (.head _)))) rfl (pt_self _ _) rfl rfl) rfl rfl ?_; intro a hf
        replace hT : Tot _ _ ([_] ++ ([_, _, _, _, _, _, _] ++ rs)) := hT.bring 5
        refine efS_last hf hT rfl rfl (by kernel_rfl) (ef_mapUpdate (v := r) kI Try.underlying29 rfl rfl rfl hMr) ?_; rintro w L ⟨M1, hM1, rfl⟩ hT
        replace hf := hf.sel [3, 2] (l' := [(3, _), (2, _)]) rfl
        refine wpIn_seq ?_
        -- region 14 (buffer.go:121)
        refine wp_reg ([]) ([_, _, _, _, _, _, _, _] ++ rs) [(0, true), (1, true), (2, true), (3, true), (4, true), (5, true), (6, true), (7, true), (8, true), (9, false)] mixed (by kernel_rfl) (hT) ?_; intro w hT
        refine rd hf rfl (yl_load Try.underlying25 rfl rfl ⟨_, .tail _ (.tail _ (.tail _ (.tail _ (.tail _ (.head _))))), _, _, _, pt_self _ _, rfl⟩) rfl rfl ?_; intro a hf
        refine rd hf rfl (yl_nil rfl) rfl rfl ?_; intro a hf
        refine rd hf rfl (yl_faddr Try.underlying106 rfl rfl sz_2 (k := 1) rfl) rfl rfl ?_; intro a hf
        refine rd hf rfl (yl_load Try.underlying2 rfl rfl ⟨_, .tail _ (.head _), _, _, _, pt_self _ _, rfl⟩) rfl rfl ?_; intro a hf
        refine rd hf rfl (yl_faddr Try.underlying31 rfl rfl sz_2 (k := 3) rfl) rfl rfl ?_; intro a hf
        refine rd hf rfl (yl_load Try.underlying2 rfl rfl ⟨_, .tail _ (.tail _ (.tail _ (.tail _ (.head _)))), _, _, _, pt_self _ _, rfl⟩) rfl rfl ?_; intro a hf
        refine rd hf rfl (yl_add rfl rfl (by unfold inI64; omega)) rfl rfl ?_; intro a hf
        refine rd hf rfl (yl_nil rfl) rfl rfl ?_; intro a hf
        refine rd hf rfl (yl_faddr Try.underlying106 rfl rfl sz_2 (k := 1) rfl) rfl rfl ?_; intro a hf
        replace hT : Tot _ _ ([_] ++ ([_, _, _, _, _, _, _] ++ rs)) := hT.bring 1
        refine efS_last hf hT rfl rfl (by kernel_rfl) (ef_store rfl rfl sz_2 rfl rfl) ?_; rintro w L rfl hT
        replace hf := hf.sel [2] (l' := [(2, _)]) rfl
        refine wpIn_seq ?_
        -- region 15 (buffer.go:122)
        refine wp_reg ([]) ([_, _, _, _, _, _, _, _] ++ rs) [(0, true)] mixed (by kernel_rfl) (hT) ?_; intro w hT
        refine rd hf rfl (yl_assign rfl) rfl rfl ?_; intro a hf
        refine plan_nil ?_
        refine wpIn_seq ?_
        refine wpIn_block ?_
        replace hT := hT.emp
        replace hT := hT.bring 8
        replace hT := hT.bring 8
        replace hT := hT.bring 4
        replace hT := hT.bring 4
        replace hT := hT.bring 5
        replace hT := hT.bring 5
        refine wp_loopS (σ := BS × List Int × Value × Value) (fun (s', d, q, vo') => [(10, q)]) [(2, _)] (fun (s', d, q, vo') L => Inv s' ∧ Goes (insB s r) s' d ∧ d.length + s'.L.length ≤ 257 ∧ ∃ XD XO Lb, Sl encI 2 q d XD ∧ Sl encI 2 vo' (ids s'.L) XO ∧ BufM b s' vo' Lb ∧ L = XD :: XO :: Lb) (fun (s', d, q, vo') => meas s') (insB s r, [], .slice none 0 0, vins) (L := [_, _, _, _, _, _]) (R := [_, _, _] ++ rs) (hf.sel [10, 2] rfl) (⟨hri, .start, by rw [show (insB s r).L.length = s.L.length + 1 from (ins_perm s.L r).length_eq]; simp; omega, _, _, _, sl_nil, hS2, ⟨br, _, bs, _, bt, _, _, _, _, rfl, hM1, hMs, hMt, hM.ins hnin⟩, rfl⟩) hT ?_
        clear hf hT; rintro ⟨s', d, q, vo'⟩ a w L hf ⟨hIv, hG, hdl, XD, XO, Lb, hD, hO, hBM, rfl⟩ hT
        replace hf : Fr _ [(10, q), (2, _)] _ _ := hf
        have hBM0 := hBM
        obtain ⟨br, xr, bs, xs, bt, xt, mr, ms, mt, rfl, hMr, hMs, hMt, hM⟩ := hBM
        have hln : (ids s'.L).length = s'.L.length := by simp [ids]
        have hus := sumB_rng hIv.ok
        rw [← hIv.us] at hus
        obtain ⟨A1, c1, hv1, hc1⟩ := hO.shape
        refine wpIn_seq ?_
        refine wpIn_seq ?_
        -- region 16 (buffer.go:123)
        refine wp_reg ([]) ([_, _, _, _, _, _, _, _, _] ++ rs) [(0, true), (1, true), (2, true), (3, true), (4, true), (5, true), (6, true), (7, true), (8, true), (9, true), (10, true), (11, true), (12, true), (13, true), (14, true), (15, true), (16, true)] mixed (by kernel_rfl) (hT) ?_; intro w hT
        refine rd hf rfl (yl_load Try.underlying25 rfl rfl ⟨_, .tail _ (.tail _ (.tail _ (.tail _ (.tail _ (.tail _ (.tail _ (.tail _ (.head _)))))))), _, _, _, pt_self _ _, rfl⟩) rfl rfl ?_; intro a hf
        refine rd hf rfl (yl_nil rfl) rfl rfl ?_; intro a hf
        refine rd hf rfl (yl_faddr Try.underlying106 rfl rfl sz_2 (k := 1) rfl) rfl rfl ?_; intro a hf
        refine rd hf rfl (yl_load Try.underlying2 rfl rfl ⟨_, .tail _ (.tail _ (.head _)), _, _, _, pt_self _ _, rfl⟩) rfl rfl ?_; intro a hf
        refine rd hf rfl (yl_load Try.underlying25 rfl rfl ⟨_, .tail _ (.tail _ (.tail _ (.tail _ (.tail _ (.tail _ (.tail _ (.tail _ (.head _)))))))), _, _, _, pt_self _ _, rfl⟩) rfl rfl ?_; intro a hf
        refine rd hf rfl (yl_nil rfl) rfl rfl ?_; intro a hf
        refine rd hf rfl (yl_faddr Try.underlying106 rfl rfl sz_2 (k := 0) rfl) rfl rfl ?_; intro a hf
        refine rd hf rfl (yl_load Try.underlying2 rfl rfl ⟨_, .tail _ (.tail _ (.head _)), _, _, _, pt_self _ _, rfl⟩) rfl rfl ?_; intro a hf
        refine rd hf rfl (yl_cmp rfl rfl rfl) rfl rfl ?_; intro a hf
        refine rd hf rfl (yl_move rfl) rfl rfl ?_; intro a hf
        by_cases hg9 : s'.cap < s'.used
        · have hgT1 : decide (s'.cap < s'.used) = true := by simpa using hg9
          have hfull : Full s' := .inl hg9
          refine rdF hf rfl rfl rfl rfl (by first | exact hgT1 | simp [hgT1]) rfl (l' := [(84, _), (83, _), (82, _), (81, _), (80, _), (79, _), (78, _), (77, _), (76, _), (75, _), (74, _), (10, _), (2, _)]) rfl ?_; intro a hf
          refine rdF hf rfl rfl rfl rfl (by first | exact hgT1 | simp [hgT1]) rfl (l' := [(85, _), (84, _), (83, _), (82, _), (81, _), (80, _), (79, _), (78, _), (77, _), (76, _), (75, _), (74, _), (10, _), (2, _)]) rfl ?_; intro a hf
          refine rdF hf rfl rfl rfl rfl (by first | exact hgT1 | simp [hgT1]) rfl (l' := [(86, _), (85, _), (84, _), (83, _), (82, _), (81, _), (80, _), (79, _), (78, _), (77, _), (76, _), (75, _), (74, _), (10, _), (2, _)]) rfl ?_; intro a hf
          refine rdF hf rfl rfl rfl rfl (by first | exact hgT1 | simp [hgT1]) rfl (l' := [(87, _), (86, _), (85, _), (84, _), (83, _), (82, _), (81, _), (80, _), (79, _), (78, _), (77, _), (76, _), (75, _), (74, _), (10, _), (2, _)]) rfl ?_; intro a hf
          refine rdF hf rfl rfl rfl rfl (by first | exact hgT1 | simp [hgT1]) rfl (l' := [(88, _), (87, _), (86, _), (85, _), (84, _), (83, _), (82, _), (81, _), (80, _), (79, _), (78, _), (77, _), (76, _), (75, _), (74, _), (10, _), (2, _)]) rfl ?_; intro a hf
          refine rdF hf rfl rfl rfl rfl (by first | exact hgT1 | simp [hgT1]) rfl (l' := [(89, _), (88, _), (87, _), (86, _), (85, _), (84, _), (83, _), (82, _), (81, _), (80, _), (79, _), (78, _), (77, _), (76, _), (75, _), (74, _), (10, _), (2, _)]) rfl ?_; intro a hf
          refine rd hf rfl (yl_pickTT rfl hgT1 rfl) rfl rfl ?_; intro a hf
          refine plan_nil ?_
          replace hf := hf.sel [90, 10, 2] (l' := [(90, _), (10, _), (2, _)]) rfl
          refine wp_ifTT hf rfl (rfl) ?_
          refine wpIn_skip ?_
          refine wpIn_block ?_
          refine wpIn_seq ?_
          refine wpIn_seq ?_
          -- region 17 (buffer.go:124)
          refine wp_reg ([_, _, _, _]) ([_, _, _, _, _] ++ rs) [(0, false), (1, false), (2, false), (3, false), (4, false), (5, false), (6, false), (7, true), (8, false), (9, true)] mixed (by kernel_rfl) (hT.brings [5, 5, 5, 5]) ?_; intro w hT
          refine ef hf hT rfl rfl (ef_read (yl_load Try.underlying25 rfl rfl ⟨_, .tail _ (.tail _ (.tail _ (.tail _ (.tail _ (.tail _ (.tail _ (.tail _ (.head _)))))))), _, _, _, pt_self _ _, rfl⟩)) rfl (l' := [(90, _), (10, _), (2, _)]) rfl ?_; rintro a w v L ⟨rfl, rfl⟩ hf hT
          refine ef hf hT rfl rfl (ef_read (yl_nil rfl)) rfl (l' := [(91, _), (90, _), (10, _), (2, _)]) rfl ?_; rintro a w v L ⟨rfl, rfl⟩ hf hT
          refine ef hf hT rfl rfl (ef_read (yl_faddr Try.underlying106 rfl rfl sz_37 (k := 3) rfl)) rfl (l' := [(92, _), (91, _), (90, _), (10, _), (2, _)]) rfl ?_; rintro a w v L ⟨rfl, rfl⟩ hf hT
          refine ef hf hT rfl rfl (ef_read (yl_load Try.underlying37 rfl rfl ⟨_, .head _, _, _, _, pt_self _ _, rfl⟩)) rfl (l' := [(93, _), (92, _), (91, _), (90, _), (10, _), (2, _)]) rfl ?_; rintro a w v L ⟨rfl, rfl⟩ hf hT
          refine ef hf hT rfl rfl (ef_read (yl_lenE rfl Try.underlying37 (hO.els (.tail _ (.tail _ (.tail _ (.tail _ (.tail _ (.head _))))))))) rfl (l' := [(94, _), (93, _), (92, _), (91, _), (90, _), (10, _), (2, _)]) rfl ?_; rintro a w v L ⟨rfl, rfl⟩ hf hT
          refine ef hf hT rfl rfl (ef_read (yl_cmp rfl rfl rfl)) rfl (l' := [(95, _), (94, _), (93, _), (92, _), (91, _), (90, _), (10, _), (2, _)]) rfl ?_; rintro a w v L ⟨rfl, rfl⟩ hf hT
          refine ef hf hT rfl rfl (ef_read (yl_move rfl)) rfl (l' := [(96, _), (95, _), (94, _), (93, _), (92, _), (91, _), (90, _), (10, _), (2, _)]) rfl ?_; rintro a w v L ⟨rfl, rfl⟩ hf hT
          by_cases hg6 : ((ids s'.L).length : Int) ≤ 256
          · have hgT2 : decide (((ids s'.L).length : Int) ≤ 256) = true := by simpa using hg6
            refine rdT hf rfl rfl rfl rfl (by first | exact hgT2 | simp [hgT2]) (yl_load Try.underlying25 rfl rfl ⟨_, .tail _ (.tail _ (.tail _ (.tail _ (.head _)))), _, _, _, pt_self _ _, rfl⟩) rfl (l' := [(98, _), (97, _), (96, _), (95, _), (94, _), (93, _), (92, _), (91, _), (90, _), (10, _), (2, _)]) rfl ?_; intro a hf
            replace hT : Tot _ _ ([_, _, _, _] ++ ([_, _, _, _, _] ++ rs)) := hT.bring 3
            replace hT : Tot _ _ ([_, _, _, _] ++ ([_, _, _, _, _] ++ rs)) := hT.bring 3
            replace hT : Tot _ _ ([_, _, _, _] ++ ([_, _, _, _, _] ++ rs)) := hT.bring 3
            replace hT : Tot _ _ ([_, _, _, _] ++ ([_, _, _, _, _] ++ rs)) := hT.bring 3
            refine ef_call hf rfl (by rw [wanted_some hf rfl rfl rfl rfl]; first | exact beqT hgT2 | simp [hgT2]) rfl rfl (by kernel_rfl) (Spec.frame (L2 := []) (compress2_spec b s' vo' _ hBM0 (hO.els (.tail _ (.head _))) hIv (by omega) hT)) rfl (l' := [(98, _), (97, _), (96, _), (95, _), (94, _), (93, _), (92, _), (91, _), (90, _), (10, _), (2, _)]) rfl ?_; rintro a w v L ⟨L1, ⟨rfl, hBM2⟩, rfl⟩ hf hT
            have hBM3 := hBM2
            obtain ⟨br, xr, bs, xs, bt, xt, mr, ms, mt, rfl, hMr, hMs, hMt, hM⟩ := hBM2
            refine rd hf rfl (yl_pickTT rfl hgT2 rfl) rfl rfl ?_; intro a hf
            refine plan_nil ?_
            replace hf := hf.sel [100, 10, 2] (l' := [(100, _), (10, _), (2, _)]) rfl
            refine wp_if hf rfl (fun hsq => ?_) (fun hsq => ?_)
            · -- then
              refine wpIn_exit ?_
              refine then_exit ?_
              refine inBlock_hit ?_
              exact ⟨(sqz s', d, q, vo'), _, hf.sel [10, 2] rfl, ⟨hIv.sqz, hG.sq (.sq hfull (by omega) hsq), by rw [len_sqz]; exact hdl, XD, XO, _, hD, by rw [ids_sqz]; exact hO, hBM3, rfl⟩, (hT.brings [8, 8, 8, 6, 6, 6, 6, 8, 8]), meas_sqz hsq⟩
            · -- else
              have hnone : squeeze s'.L = none := by simpa using hsq
              rw [sqz_none hnone] at hT hM
              have hnn : s'.L.length ≤ 256 → squeeze s'.L = none := fun _ => hnone
              refine wpIn_skip ?_
              refine wpIn_seq ?_
              obtain ⟨x, hx⟩ := last_of_full hIv hfull
              have hne : 0 < s'.L.length := by cases hq : s'.L with | nil => rw [hq] at hx; cases hx | cons a l => simp
              have hj : (ids s'.L)[((((ids s'.L).length : Nat) : Int) - 1).toNat]? = some x.r.id := by rw [show ((((ids s'.L).length : Nat) : Int) - 1).toNat = s'.L.length - 1 by omega]; simp only [ids, List.getElem?_map]; rw [← List.getLast?_eq_getElem?, hx]; rfl
              have hxm : x ∈ s'.L := List.mem_of_getLast? hx
              have hfx := fnd_of_mem hIv.nd hxm
              have hbx := bytes_rng (hIv.ok x hxm)
              have hOs : Sl encI 2 (.slice A1 (ids s'.L).length c1) (ids s'.L) XO := by rw [← hv1]; exact hO
              have hcut := hOs.cut (H := s'.L.length - 1) (by omega)
              have hcut2 : Sl encI 2 (.slice (if c1 = 0 then A1 else A1.map (·.add (0 * 1))) (s'.L.length - 1 - 0) (c1 - 0)) (ids (drp s' x).L) XO := by rw [show ids (drp s' x).L = (ids s'.L).take (s'.L.length - 1) by rw [drp_L hIv hx, ids, ids, List.map_dropLast, List.dropLast_eq_take, List.length_map]]; exact hcut
              -- region 18 (buffer.go:127)
              refine wp_reg ([]) ([_, _, _, _, _, _, _, _, _] ++ rs) [(0, true), (1, true), (2, true), (3, true), (4, true), (5, true), (6, true)] mixed (by kernel_rfl) (hT) ?_; intro w hT
              refine rd hf rfl (yl_load Try.underlying25 rfl rfl ⟨_, .tail _ (.tail _ (.tail _ (.tail _ (.tail _ (.tail _ (.tail _ (.tail _ (.head _)))))))), _, _, _, pt_self _ _, rfl⟩) rfl rfl ?_; intro a hf
              refine rd hf rfl (yl_nil rfl) rfl rfl ?_; intro a hf
              refine rd hf rfl (yl_faddr Try.underlying106 rfl rfl sz_37 (k := 3) rfl) rfl rfl ?_; intro a hf
              refine rd hf rfl (yl_load Try.underlying37 rfl rfl ⟨_, .head _, _, _, _, pt_self _ _, rfl⟩) rfl rfl ?_; intro a hf
              refine rd hf rfl (yl_lenE rfl Try.underlying37 (hO.els (.tail _ (.tail _ (.tail _ (.tail _ (.tail _ (.head _)))))))) rfl rfl ?_; intro a hf
              refine rd hf rfl (yl_sub rfl rfl (by unfold inI64; omega)) rfl rfl ?_; intro a hf
              refine rd hf rfl (yl_assign rfl) rfl rfl ?_; intro a hf
              refine plan_nil ?_
              replace hf := hf.sel [11, 10, 2] (l' := [(11, _), (10, _), (2, _)]) rfl
              refine wpIn_seq ?_
              -- region 19 (buffer.go:128)
              refine wp_reg ([]) ([_, _, _, _, _, _, _, _, _] ++ rs) [(0, true), (1, true), (2, true), (3, true), (4, true), (5, true), (6, true), (7, true)] mixed (by kernel_rfl) (hT) ?_; intro w hT
              refine rd hf rfl (yl_load Try.underlying25 rfl rfl ⟨_, .tail _ (.tail _ (.tail _ (.tail _ (.tail _ (.tail _ (.tail _ (.tail _ (.head _)))))))), _, _, _, pt_self _ _, rfl⟩) rfl rfl ?_; intro a hf
              refine rd hf rfl (yl_nil rfl) rfl rfl ?_; intro a hf
              refine rd hf rfl (yl_faddr Try.underlying106 rfl rfl sz_37 (k := 3) rfl) rfl rfl ?_; intro a hf
              refine rd hf rfl (yl_load Try.underlying37 rfl rfl ⟨_, .head _, _, _, _, pt_self _ _, rfl⟩) rfl rfl ?_; intro a hf
              refine rd hf rfl (yl_move rfl) rfl rfl ?_; intro a hf
              refine rd hf rfl (yl_indexE rfl rfl Try.underlying37 sz_2 (hO.els (.tail _ (.tail _ (.tail _ (.tail _ (.tail _ (.head _))))))) (by omega) (by omega)) rfl rfl ?_; intro a hf
              refine rd hf rfl (yl_load Try.underlying2 rfl rfl ((hO.els (.tail _ (.tail _ (.tail _ (.tail _ (.tail _ (.head _))))))).cell hj (f := 0) rfl)) rfl rfl ?_; intro a hf
              refine rd hf rfl (yl_assign rfl) rfl rfl ?_; intro a hf
              refine plan_nil ?_
              replace hf := hf.sel [12, 11, 10, 2] (l' := [(12, _), (11, _), (10, _), (2, _)]) rfl
              refine wpIn_seq ?_
              -- region 20 (buffer.go:129)
              refine wp_reg ([]) ([_, _, _, _, _, _, _, _, _] ++ rs) [(0, true), (1, true), (2, true), (3, true), (4, true), (5, true), (6, true), (7, true), (8, true), (9, false)] mixed (by kernel_rfl) (hT) ?_; intro w hT
              refine rd hf rfl (yl_load Try.underlying25 rfl rfl ⟨_, .tail _ (.tail _ (.tail _ (.tail _ (.tail _ (.tail _ (.tail _ (.tail _ (.head _)))))))), _, _, _, pt_self _ _, rfl⟩) rfl rfl ?_; intro a hf
              refine rd hf rfl (yl_load Try.underlying25 rfl rfl ⟨_, .tail _ (.tail _ (.tail _ (.tail _ (.tail _ (.tail _ (.tail _ (.tail _ (.head _)))))))), _, _, _, pt_self _ _, rfl⟩) rfl rfl ?_; intro a hf
              refine rd hf rfl (yl_nil rfl) rfl rfl ?_; intro a hf
              refine rd hf rfl (yl_faddr Try.underlying106 rfl rfl sz_37 (k := 3) rfl) rfl rfl ?_; intro a hf
              refine rd hf rfl (yl_load Try.underlying37 rfl rfl ⟨_, .head _, _, _, _, pt_self _ _, rfl⟩) rfl rfl ?_; intro a hf
              refine rd hf rfl (yl_move rfl) rfl rfl ?_; intro a hf
              refine rd hf rfl (yl_slice (L := 0) (H := s'.L.length - 1) (A := A1) (c := c1) (congrArg some hv1) Try.underlying37 sz_2 rfl (idxI (by omega)) (Nat.zero_le _) (by omega)) rfl rfl ?_; intro a hf
              refine rd hf rfl (yl_nil rfl) rfl rfl ?_; intro a hf
              refine rd hf rfl (yl_faddr Try.underlying106 rfl rfl sz_37 (k := 3) rfl) rfl rfl ?_; intro a hf
              replace hT : Tot _ _ ([_] ++ ([_, _, _, _, _, _, _, _] ++ rs)) := hT.bring 0
              refine efS_last hf hT rfl rfl (by kernel_rfl) (ef_store rfl rfl sz_37 rfl rfl) ?_; rintro w L rfl hT
              replace hf := hf.sel [12, 10, 2] (l' := [(12, _), (10, _), (2, _)]) rfl
              refine wpIn_seq ?_
              have hBMc : BufM b s' (.slice (if c1 = 0 then A1 else A1.map (·.add (0 * 1))) (s'.L.length - 1 - 0) (c1 - 0)) [_, _, _, _] := ⟨br, _, bs, _, bt, _, _, _, _, rfl, hMr, hMs, hMt, hM⟩
              -- region 21 (buffer.go:130)
              refine wp_reg ([]) ([_, _, _, _, _, _, _, _, _] ++ rs) [(0, true), (1, true), (2, false)] mixed (by kernel_rfl) (hT) ?_; intro w hT
              refine rd hf rfl (yl_load Try.underlying25 rfl rfl ⟨_, .tail _ (.tail _ (.tail _ (.tail _ (.tail _ (.tail _ (.tail _ (.tail _ (.head _)))))))), _, _, _, pt_self _ _, rfl⟩) rfl rfl ?_; intro a hf
              refine rd hf rfl (yl_move rfl) rfl rfl ?_; intro a hf
              replace hT : Tot _ _ ([_] ++ ([_, _, _, _, _, _, _, _] ++ rs)) := hT.bring 3
              replace hT : Tot _ _ ([_, _] ++ ([_, _, _, _, _, _, _] ++ rs)) := hT.bring 3
              replace hT : Tot _ _ ([_, _, _] ++ ([_, _, _, _, _, _] ++ rs)) := hT.bring 3
              replace hT : Tot _ _ ([_, _, _, _] ++ ([_, _, _, _, _] ++ rs)) := hT.bring 3
              refine ef_call_last hf rfl (wanted_none _ _ rfl) (by kernel_rfl) rfl rfl (by kernel_rfl) (Spec.frame (L2 := []) (remove_spec b s' _ _ hBMc x.r.id x hfx (by unfold inI64; omega) hT)) rfl (l' := [(124, _), (123, _), (12, _), (10, _), (2, _)]) rfl ?_; rintro a w v L ⟨L1, ⟨Lb3, hBM4, rfl⟩, rfl⟩ hf hT
              have hBM5 : BufM b (drp s' x) _ _ := hBM4
              obtain ⟨br, xr, bs, xs, bt, xt, mr, ms, mt, rfl, hMr, hMs, hMt, hM⟩ := hBM4
              replace hf := hf.sel [12, 10, 2] (l' := [(12, _), (10, _), (2, _)]) rfl
              -- region 22 (buffer.go:131)
              refine wp_reg ([_]) ([_, _, _, _, _, _, _, _] ++ rs) [(0, true), (1, true), (2, false), (3, false), (4, true)] mixed (by kernel_rfl) (hT.brings [4]) ?_; intro w hT
              refine rd hf rfl (yl_move rfl) rfl rfl ?_; intro a hf
              refine rd hf rfl (yl_move rfl) rfl rfl ?_; intro a hf
              refine ef hf hT rfl rfl (ef_buildSlice (E := encI) (xs := [x.r.id]) rfl rfl Try.underlying37 zs_2 rfl (by decide) rfl (by decide)) rfl (l' := [(127, _), (126, _), (12, _), (10, _), (2, _)]) rfl ?_; rintro a w onex L ⟨b5, p2, hvp2, hp2, rfl⟩ hf hT
              replace hT : Tot _ _ ([_, _] ++ ([_, _, _, _, _, _, _, _] ++ rs)) := hT.bring 1
              refine ef hf hT rfl rfl (ef_append (E := encI) (L := [_]) rfl rfl Try.underlying37 zb_2 rfl hD (hp2.els (.tail _ (.head _))) (by simp; omega) (by simp [maxLen]; omega)) rfl (l' := [(128, _), (127, _), (126, _), (12, _), (10, _), (2, _)]) rfl ?_; rintro a w q2 L ⟨X1, hS1, rfl⟩ hf hT
              refine rw_ hf rfl (yl_assign rfl) rfl (l' := [(10, _), (129, _), (128, _), (127, _), (126, _), (12, _), (2, _)]) rfl ?_; intro a hf
              refine plan_nil ?_
              replace hf := hf.sel [10, 2] (l' := [(10, _), (2, _)]) rfl
              exact ⟨(drp s' x, d ++ [x.r.id], q2, (.slice (if c1 = 0 then A1 else A1.map (·.add (0 * 1))) (s'.L.length - 1 - 0) (c1 - 0))), _, hf.sel [10, 2] rfl, ⟨hIv.drp hx, hG.step (.dr x hfull hnn hx), by rw [drp_L hIv hx, List.length_append, List.length_dropLast, List.length_singleton]; omega, _, XO, _, hS1, hcut2, hBM5, rfl⟩, ((hT.brings [1]).tail.brings [8, 8, 8, 7, 7, 7, 7, 8, 8]), meas_drp hIv hx⟩
          · have hgT2 : decide (((ids s'.L).length : Int) ≤ 256) = false := by simpa using hg6
            have hnn : s'.L.length ≤ 256 → squeeze s'.L = none := fun h => by omega
            refine rdF hf rfl rfl rfl rfl (by first | exact hgT2 | simp [hgT2]) rfl (l' := [(98, _), (97, _), (96, _), (95, _), (94, _), (93, _), (92, _), (91, _), (90, _), (10, _), (2, _)]) rfl ?_; intro a hf
            refine efF hf rfl rfl rfl rfl (by first | exact hgT2 | simp [hgT2]) hT.allR (by simp [Nat.blt]) (l' := [(99, _), (98, _), (97, _), (96, _), (95, _), (94, _), (93, _), (92, _), (91, _), (90, _), (10, _), (2, _)]) rfl ?_; intro a hf
            refine rd hf rfl (yl_pickFF rfl hgT2 rfl) rfl rfl ?_; intro a hf
            refine plan_nil ?_
            replace hf := hf.sel [100, 10, 2] (l' := [(100, _), (10, _), (2, _)]) rfl
            refine wp_ifFF hf rfl (rfl) ?_
            refine wpIn_skip ?_
            refine wpIn_seq ?_
            obtain ⟨x, hx⟩ := last_of_full hIv hfull
            have hne : 0 < s'.L.length := by cases hq : s'.L with | nil => rw [hq] at hx; cases hx | cons a l => simp
            have hj : (ids s'.L)[((((ids s'.L).length : Nat) : Int) - 1).toNat]? = some x.r.id := by rw [show ((((ids s'.L).length : Nat) : Int) - 1).toNat = s'.L.length - 1 by omega]; simp only [ids, List.getElem?_map]; rw [← List.getLast?_eq_getElem?, hx]; rfl
            have hxm : x ∈ s'.L := List.mem_of_getLast? hx
            have hfx := fnd_of_mem hIv.nd hxm
            have hbx := bytes_rng (hIv.ok x hxm)
            have hOs : Sl encI 2 (.slice A1 (ids s'.L).length c1) (ids s'.L) XO := by rw [← hv1]; exact hO
            have hcut := hOs.cut (H := s'.L.length - 1) (by omega)
            have hcut2 : Sl encI 2 (.slice (if c1 = 0 then A1 else A1.map (·.add (0 * 1))) (s'.L.length - 1 - 0) (c1 - 0)) (ids (drp s' x).L) XO := by rw [show ids (drp s' x).L = (ids s'.L).take (s'.L.length - 1) by rw [drp_L hIv hx, ids, ids, List.map_dropLast, List.dropLast_eq_take, List.length_map]]; exact hcut
            -- region 18 (buffer.go:127)
            refine wp_reg ([]) ([_, _, _, _, _, _, _, _, _] ++ rs) [(0, true), (1, true), (2, true), (3, true), (4, true), (5, true), (6, true)] mixed (by kernel_rfl) (hT) ?_; intro w hT
            refine rd hf rfl (yl_load Try.underlying25 rfl rfl ⟨_, .tail _ (.tail _ (.tail _ (.tail _ (.tail _ (.tail _ (.tail _ (.tail _ (.head _)))))))), _, _, _, pt_self _ _, rfl⟩) rfl rfl ?_; intro a hf
            refine rd hf rfl (yl_nil rfl) rfl rfl ?_; intro a hf
            refine rd hf rfl (yl_faddr Try.underlying106 rfl rfl sz_37 (k := 3) rfl) rfl rfl ?_; intro a hf
            refine rd hf rfl (yl_load Try.underlying37 rfl rfl ⟨_, .head _, _, _, _, pt_self _ _, rfl⟩) rfl rfl ?_; intro a hf
            refine rd hf rfl (yl_lenE rfl Try.underlying37 (hO.els (.tail _ (.tail _ (.tail _ (.tail _ (.tail _ (.head _)))))))) rfl rfl ?_; intro a hf
            refine rd hf rfl (yl_sub rfl rfl (by unfold inI64; omega)) rfl rfl ?_; intro a hf
            refine rd hf rfl (yl_assign rfl) rfl rfl ?_; intro a hf
            refine plan_nil ?_
            replace hf := hf.sel [11, 10, 2] (l' := [(11, _), (10, _), (2, _)]) rfl
            refine wpIn_seq ?_
            -- region 19 (buffer.go:128)
            refine wp_reg ([]) ([_, _, _, _, _, _, _, _, _] ++ rs) [(0, true), (1, true), (2, true), (3, true), (4, true), (5, true), (6, true), (7, true)] mixed (by kernel_rfl) (hT) ?_; intro w hT
            refine rd hf rfl (yl_load Try.underlying25 rfl rfl ⟨_, .tail _ (.tail _ (.tail _ (.tail _ (.tail _ (.tail _ (.tail _ (.tail _ (.head _)))))))), _, _, _, pt_self _ _, rfl⟩) rfl rfl ?_; intro a hf
            refine rd hf rfl (yl_nil rfl) rfl rfl ?_; intro a hf
            refine rd hf rfl (yl_faddr Try.underlying106 rfl rfl sz_37 (k := 3) rfl) rfl rfl ?_; intro a hf
            refine rd hf rfl (yl_load Try.underlying37 rfl rfl ⟨_, .head _, _, _, _, pt_self _ _, rfl⟩) rfl rfl ?_; intro a hf
            refine rd hf rfl (yl_move rfl) rfl rfl ?_; intro a hf
            refine rd hf rfl (yl_indexE rfl rfl Try.underlying37 sz_2 (hO.els (.tail _ (.tail _ (.tail _ (.tail _ (.tail _ (.head _))))))) (by omega) (by omega)) rfl rfl ?_; intro a hf
            refine rd hf rfl (yl_load Try.underlying2 rfl rfl ((hO.els (.tail _ (.tail _ (.tail _ (.tail _ (.tail _ (.head _))))))).cell hj (f := 0) rfl)) rfl rfl ?_; intro a hf
            refine rd hf rfl (yl_assign rfl) rfl rfl ?_; intro a hf
            refine plan_nil ?_
            replace hf := hf.sel [12, 11, 10, 2] (l' := [(12, _), (11, _), (10, _), (2, _)]) rfl
            refine wpIn_seq ?_
            -- region 20 (buffer.go:129)
            refine wp_reg ([]) ([_, _, _, _, _, _, _, _, _] ++ rs) [(0, true), (1, true), (2, true), (3, true), (4, true), (5, true), (6, true), (7, true), (8, true), (9, false)] mixed (by kernel_rfl) (hT) ?_; intro w hT
            refine rd hf rfl (yl_load Try.underlying25 rfl rfl ⟨_, .tail _ (.tail _ (.tail _ (.tail _ (.tail _ (.tail _ (.tail _ (.tail _ (.head _)))))))), _, _, _, pt_self _ _, rfl⟩) rfl rfl ?_; intro a hf
            refine rd hf rfl (yl_load Try.underlying25 rfl rfl ⟨_, .tail _ (.tail _ (.tail _ (.tail _ (.tail _ (.tail _ (.tail _ (.tail _ (.head _)))))))), _, _, _, pt_self _ _, rfl⟩) rfl rfl ?_; intro a hf
            refine rd hf rfl (yl_nil rfl) rfl rfl ?_; intro a hf
            refine rd hf rfl (yl_faddr Try.underlying106 rfl rfl sz_37 (k := 3) rfl) rfl rfl ?_; intro a hf
            refine rd hf rfl (yl_load Try.underlying37 rfl rfl ⟨_, .head _, _, _, _, pt_self _ _, rfl⟩) rfl rfl ?_; intro a hf
            refine rd hf rfl (yl_move rfl) rfl rfl ?_; intro a hf
            refine rd hf rfl (yl_slice (L := 0) (H := s'.L.length - 1) (A := A1) (c := c1) (congrArg some hv1) Try.underlying37 sz_2 rfl (idxI (by omega)) (Nat.zero_le _) (by omega)) rfl rfl ?_; intro a hf
            refine rd hf rfl (yl_nil rfl) rfl rfl ?_; intro a hf
            refine rd hf rfl (yl_faddr Try.underlying106 rfl rfl sz_37 (k := 3) rfl) rfl rfl ?_; intro a hf
            replace hT : Tot _ _ ([_] ++ ([_, _, _, _, _, _, _, _] ++ rs)) := hT.bring 0
            refine efS_last hf hT rfl rfl (by kernel_rfl) (ef_store rfl rfl sz_37 rfl rfl) ?_; rintro w L rfl hT
            replace hf := hf.sel [12, 10, 2] (l' := [(12, _), (10, _), (2, _)]) rfl
            refine wpIn_seq ?_
            have hBMc : BufM b s' (.slice (if c1 = 0 then A1 else A1.map (·.add (0 * 1))) (s'.L.length - 1 - 0) (c1 - 0)) [_, _, _, _] := ⟨br, _, bs, _, bt, _, _, _, _, rfl, hMr, hMs, hMt, hM⟩
            -- region 21 (buffer.go:130)
            refine wp_reg ([]) ([_, _, _, _, _, _, _, _, _] ++ rs) [(0, true), (1, true), (2, false)] mixed (by kernel_rfl) (hT) ?_; intro w hT
            refine rd hf rfl (yl_load Try.underlying25 rfl rfl ⟨_, .tail _ (.tail _ (.tail _ (.tail _ (.tail _ (.tail _ (.tail _ (.tail _ (.head _)))))))), _, _, _, pt_self _ _, rfl⟩) rfl rfl ?_; intro a hf
            refine rd hf rfl (yl_move rfl) rfl rfl ?_; intro a hf
            replace hT : Tot _ _ ([_] ++ ([_, _, _, _, _, _, _, _] ++ rs)) := hT.bring 3
            replace hT : Tot _ _ ([_, _] ++ ([_, _, _, _, _, _, _] ++ rs)) := hT.bring 3
            replace hT : Tot _ _ ([_, _, _] ++ ([_, _, _, _, _, _] ++ rs)) := hT.bring 3
            replace hT : Tot _ _ ([_, _, _, _] ++ ([_, _, _, _, _] ++ rs)) := hT.bring 3
            refine ef_call_last hf rfl (wanted_none _ _ rfl) (by kernel_rfl) rfl rfl (by kernel_rfl) (Spec.frame (L2 := []) (remove_spec b s' _ _ hBMc x.r.id x hfx (by unfold inI64; omega) hT)) rfl (l' := [(124, _), (123, _), (12, _), (10, _), (2, _)]) rfl ?_; rintro a w v L ⟨L1, ⟨Lb3, hBM4, rfl⟩, rfl⟩ hf hT
            have hBM5 : BufM b (drp s' x) _ _ := hBM4
            obtain ⟨br, xr, bs, xs, bt, xt, mr, ms, mt, rfl, hMr, hMs, hMt, hM⟩ := hBM4
            replace hf := hf.sel [12, 10, 2] (l' := [(12, _), (10, _), (2, _)]) rfl
            -- region 22 (buffer.go:131)
            refine wp_reg ([_]) ([_, _, _, _, _, _, _, _] ++ rs) [(0, true), (1, true), (2, false), (3, false), (4, true)] mixed (by kernel_rfl) (hT.brings [4]) ?_; intro w hT
            refine rd hf rfl (yl_move rfl) rfl rfl ?_; intro a hf
            refine rd hf rfl (yl_move rfl) rfl rfl ?_; intro a hf
            refine ef hf hT rfl rfl (ef_buildSlice (E := encI) (xs := [x.r.id]) rfl rfl Try.underlying37 zs_2 rfl (by decide) rfl (by decide)) rfl (l' := [(127, _), (126, _), (12, _), (10, _), (2, _)]) rfl ?_; rintro a w onex L ⟨b6, p3, hvp3, hp3, rfl⟩ hf hT
            replace hT : Tot _ _ ([_, _] ++ ([_, _, _, _, _, _, _, _] ++ rs)) := hT.bring 1
            refine ef hf hT rfl rfl (ef_append (E := encI) (L := [_]) rfl rfl Try.underlying37 zb_2 rfl hD (hp3.els (.tail _ (.head _))) (by simp; omega) (by simp [maxLen]; omega)) rfl (l' := [(128, _), (127, _), (126, _), (12, _), (10, _), (2, _)]) rfl ?_; rintro a w q2 L ⟨X2, hS2, rfl⟩ hf hT
            refine rw_ hf rfl (yl_assign rfl) rfl (l' := [(10, _), (129, _), (128, _), (127, _), (126, _), (12, _), (2, _)]) rfl ?_; intro a hf
            refine plan_nil ?_
            replace hf := hf.sel [10, 2] (l' := [(10, _), (2, _)]) rfl
            exact ⟨(drp s' x, d ++ [x.r.id], q2, (.slice (if c1 = 0 then A1 else A1.map (·.add (0 * 1))) (s'.L.length - 1 - 0) (c1 - 0))), _, hf.sel [10, 2] rfl, ⟨hIv.drp hx, hG.step (.dr x hfull hnn hx), by rw [drp_L hIv hx, List.length_append, List.length_dropLast, List.length_singleton]; omega, _, XO, _, hS2, hcut2, hBM5, rfl⟩, ((hT.brings [1]).tail.brings [8, 8, 8, 7, 7, 7, 7, 8, 8]), meas_drp hIv hx⟩
        · have hgT1 : decide (s'.cap < s'.used) = false := by simpa using hg9
          refine rdT hf rfl rfl rfl rfl (by first | exact hgT1 | simp [hgT1]) (yl_load Try.underlying25 rfl rfl ⟨_, .tail _ (.tail _ (.tail _ (.tail _ (.tail _ (.tail _ (.tail _ (.tail _ (.head _)))))))), _, _, _, pt_self _ _, rfl⟩) rfl (l' := [(84, _), (83, _), (82, _), (81, _), (80, _), (79, _), (78, _), (77, _), (76, _), (75, _), (74, _), (10, _), (2, _)]) rfl ?_; intro a hf
          refine rdT hf rfl rfl rfl rfl (by first | exact hgT1 | simp [hgT1]) (yl_nil rfl) rfl (l' := [(85, _), (84, _), (83, _), (82, _), (81, _), (80, _), (79, _), (78, _), (77, _), (76, _), (75, _), (74, _), (10, _), (2, _)]) rfl ?_; intro a hf
          refine rdT hf rfl rfl rfl rfl (by first | exact hgT1 | simp [hgT1]) (yl_faddr Try.underlying106 rfl rfl sz_37 (k := 3) rfl) rfl (l' := [(86, _), (85, _), (84, _), (83, _), (82, _), (81, _), (80, _), (79, _), (78, _), (77, _), (76, _), (75, _), (74, _), (10, _), (2, _)]) rfl ?_; intro a hf
          refine rdT hf rfl rfl rfl rfl (by first | exact hgT1 | simp [hgT1]) (yl_load Try.underlying37 rfl rfl ⟨_, .tail _ (.tail _ (.head _)), _, _, _, pt_self _ _, rfl⟩) rfl (l' := [(87, _), (86, _), (85, _), (84, _), (83, _), (82, _), (81, _), (80, _), (79, _), (78, _), (77, _), (76, _), (75, _), (74, _), (10, _), (2, _)]) rfl ?_; intro a hf
          refine rdT hf rfl rfl rfl rfl (by first | exact hgT1 | simp [hgT1]) (yl_lenE rfl Try.underlying37 (hO.els (.tail _ (.head _)))) rfl (l' := [(88, _), (87, _), (86, _), (85, _), (84, _), (83, _), (82, _), (81, _), (80, _), (79, _), (78, _), (77, _), (76, _), (75, _), (74, _), (10, _), (2, _)]) rfl ?_; intro a hf
          refine rdT hf rfl rfl rfl rfl (by first | exact hgT1 | simp [hgT1]) (yl_cmp rfl rfl rfl) rfl (l' := [(89, _), (88, _), (87, _), (86, _), (85, _), (84, _), (83, _), (82, _), (81, _), (80, _), (79, _), (78, _), (77, _), (76, _), (75, _), (74, _), (10, _), (2, _)]) rfl ?_; intro a hf
          refine rd hf rfl (yl_pickFF rfl hgT1 rfl) rfl rfl ?_; intro a hf
          refine plan_nil ?_
          replace hf := hf.sel [90, 10, 2] (l' := [(90, _), (10, _), (2, _)]) rfl
          refine wp_ifd hf rfl (fun hgo => ?_) (fun hgo => ?_)
          · -- then
            have hfull : Full s' := .inr (by omega)
            refine wpIn_skip ?_
            refine wpIn_block ?_
            refine wpIn_seq ?_
            refine wpIn_seq ?_
            -- region 17 (buffer.go:124)
            refine wp_reg ([_, _, _, _]) ([_, _, _, _, _] ++ rs) [(0, false), (1, false), (2, false), (3, false), (4, false), (5, false), (6, false), (7, true), (8, false), (9, true)] mixed (by kernel_rfl) (hT.brings [5, 5, 5, 5]) ?_; intro w hT
            refine ef hf hT rfl rfl (ef_read (yl_load Try.underlying25 rfl rfl ⟨_, .tail _ (.tail _ (.tail _ (.tail _ (.tail _ (.tail _ (.tail _ (.tail _ (.head _)))))))), _, _, _, pt_self _ _, rfl⟩)) rfl (l' := [(90, _), (10, _), (2, _)]) rfl ?_; rintro a w v L ⟨rfl, rfl⟩ hf hT
            refine ef hf hT rfl rfl (ef_read (yl_nil rfl)) rfl (l' := [(91, _), (90, _), (10, _), (2, _)]) rfl ?_; rintro a w v L ⟨rfl, rfl⟩ hf hT
            refine ef hf hT rfl rfl (ef_read (yl_faddr Try.underlying106 rfl rfl sz_37 (k := 3) rfl)) rfl (l' := [(92, _), (91, _), (90, _), (10, _), (2, _)]) rfl ?_; rintro a w v L ⟨rfl, rfl⟩ hf hT
            refine ef hf hT rfl rfl (ef_read (yl_load Try.underlying37 rfl rfl ⟨_, .head _, _, _, _, pt_self _ _, rfl⟩)) rfl (l' := [(93, _), (92, _), (91, _), (90, _), (10, _), (2, _)]) rfl ?_; rintro a w v L ⟨rfl, rfl⟩ hf hT
            refine ef hf hT rfl rfl (ef_read (yl_lenE rfl Try.underlying37 (hO.els (.tail _ (.tail _ (.tail _ (.tail _ (.tail _ (.head _))))))))) rfl (l' := [(94, _), (93, _), (92, _), (91, _), (90, _), (10, _), (2, _)]) rfl ?_; rintro a w v L ⟨rfl, rfl⟩ hf hT
            refine ef hf hT rfl rfl (ef_read (yl_cmp rfl rfl rfl)) rfl (l' := [(95, _), (94, _), (93, _), (92, _), (91, _), (90, _), (10, _), (2, _)]) rfl ?_; rintro a w v L ⟨rfl, rfl⟩ hf hT
            refine ef hf hT rfl rfl (ef_read (yl_move rfl)) rfl (l' := [(96, _), (95, _), (94, _), (93, _), (92, _), (91, _), (90, _), (10, _), (2, _)]) rfl ?_; rintro a w v L ⟨rfl, rfl⟩ hf hT
            by_cases hg6 : ((ids s'.L).length : Int) ≤ 256
            · have hgT3 : decide (((ids s'.L).length : Int) ≤ 256) = true := by simpa using hg6
              refine rdT hf rfl rfl rfl rfl (by first | exact hgT3 | simp [hgT3]) (yl_load Try.underlying25 rfl rfl ⟨_, .tail _ (.tail _ (.tail _ (.tail _ (.head _)))), _, _, _, pt_self _ _, rfl⟩) rfl (l' := [(98, _), (97, _), (96, _), (95, _), (94, _), (93, _), (92, _), (91, _), (90, _), (10, _), (2, _)]) rfl ?_; intro a hf
              replace hT : Tot _ _ ([_, _, _, _] ++ ([_, _, _, _, _] ++ rs)) := hT.bring 3
              replace hT : Tot _ _ ([_, _, _, _] ++ ([_, _, _, _, _] ++ rs)) := hT.bring 3
              replace hT : Tot _ _ ([_, _, _, _] ++ ([_, _, _, _, _] ++ rs)) := hT.bring 3
              replace hT : Tot _ _ ([_, _, _, _] ++ ([_, _, _, _, _] ++ rs)) := hT.bring 3
              refine ef_call hf rfl (by rw [wanted_some hf rfl rfl rfl rfl]; first | exact beqT hgT3 | simp [hgT3]) rfl rfl (by kernel_rfl) (Spec.frame (L2 := []) (compress2_spec b s' vo' _ hBM0 (hO.els (.tail _ (.head _))) hIv (by omega) hT)) rfl (l' := [(98, _), (97, _), (96, _), (95, _), (94, _), (93, _), (92, _), (91, _), (90, _), (10, _), (2, _)]) rfl ?_; rintro a w v L ⟨L1, ⟨rfl, hBM2⟩, rfl⟩ hf hT
              have hBM3 := hBM2
              obtain ⟨br, xr, bs, xs, bt, xt, mr, ms, mt, rfl, hMr, hMs, hMt, hM⟩ := hBM2
              refine rd hf rfl (yl_pickTT rfl hgT3 rfl) rfl rfl ?_; intro a hf
              refine plan_nil ?_
              replace hf := hf.sel [100, 10, 2] (l' := [(100, _), (10, _), (2, _)]) rfl
              refine wp_if hf rfl (fun hsq => ?_) (fun hsq => ?_)
              · -- then
                refine wpIn_exit ?_
                refine then_exit ?_
                refine inBlock_hit ?_
                exact ⟨(sqz s', d, q, vo'), _, hf.sel [10, 2] rfl, ⟨hIv.sqz, hG.sq (.sq hfull (by omega) hsq), by rw [len_sqz]; exact hdl, XD, XO, _, hD, by rw [ids_sqz]; exact hO, hBM3, rfl⟩, (hT.brings [8, 8, 8, 6, 6, 6, 6, 8, 8]), meas_sqz hsq⟩
              · -- else
                have hnone : squeeze s'.L = none := by simpa using hsq
                rw [sqz_none hnone] at hT hM
                have hnn : s'.L.length ≤ 256 → squeeze s'.L = none := fun _ => hnone
                refine wpIn_skip ?_
                refine wpIn_seq ?_
                obtain ⟨x, hx⟩ := last_of_full hIv hfull
                have hne : 0 < s'.L.length := by cases hq : s'.L with | nil => rw [hq] at hx; cases hx | cons a l => simp
                have hj : (ids s'.L)[((((ids s'.L).length : Nat) : Int) - 1).toNat]? = some x.r.id := by rw [show ((((ids s'.L).length : Nat) : Int) - 1).toNat = s'.L.length - 1 by omega]; simp only [ids, List.getElem?_map]; rw [← List.getLast?_eq_getElem?, hx]; rfl
                have hxm : x ∈ s'.L := List.mem_of_getLast? hx
                have hfx := fnd_of_mem hIv.nd hxm
                have hbx := bytes_rng (hIv.ok x hxm)
                have hOs : Sl encI 2 (.slice A1 (ids s'.L).length c1) (ids s'.L) XO := by rw [← hv1]; exact hO
                have hcut := hOs.cut (H := s'.L.length - 1) (by omega)
                have hcut2 : Sl encI 2 (.slice (if c1 = 0 then A1 else A1.map (·.add (0 * 1))) (s'.L.length - 1 - 0) (c1 - 0)) (ids (drp s' x).L) XO := by rw [show ids (drp s' x).L = (ids s'.L).take (s'.L.length - 1) by rw [drp_L hIv hx, ids, ids, List.map_dropLast, List.dropLast_eq_take, List.length_map]]; exact hcut
                -- region 18 (buffer.go:127)
                refine wp_reg ([]) ([_, _, _, _, _, _, _, _, _] ++ rs) [(0, true), (1, true), (2, true), (3, true), (4, true), (5, true), (6, true)] mixed (by kernel_rfl) (hT) ?_; intro w hT
                refine rd hf rfl (yl_load Try.underlying25 rfl rfl ⟨_, .tail _ (.tail _ (.tail _ (.tail _ (.tail _ (.tail _ (.tail _ (.tail _ (.head _)))))))), _, _, _, pt_self _ _, rfl⟩) rfl rfl ?_; intro a hf
                refine rd hf rfl (yl_nil rfl) rfl rfl ?_; intro a hf
                refine rd hf rfl (yl_faddr Try.underlying106 rfl rfl sz_37 (k := 3) rfl) rfl rfl ?_; intro a hf
                refine rd hf rfl (yl_load Try.underlying37 rfl rfl ⟨_, .head _, _, _, _, pt_self _ _, rfl⟩) rfl rfl ?_; intro a hf
                refine rd hf rfl (yl_lenE rfl Try.underlying37 (hO.els (.tail _ (.tail _ (.tail _ (.tail _ (.tail _ (.head _)))))))) rfl rfl ?_; intro a hf
                refine rd hf rfl (yl_sub rfl rfl (by unfold inI64; omega)) rfl rfl ?_; intro a hf
                refine rd hf rfl (yl_assign rfl) rfl rfl ?_; intro a hf
                refine plan_nil ?_
                replace hf := hf.sel [11, 10, 2] (l' := [(11, _), (10, _), (2, _)]) rfl
                refine wpIn_seq ?_
                -- region 19 (buffer.go:128)
                refine wp_reg ([]) ([_, _, _, _, _, _, _, _, _] ++ rs) [(0, true), (1, true), (2, true), (3, true), (4, true), (5, true), (6, true), (7, true)] mixed (by kernel_rfl) (hT) ?_; intro w hT
                refine rd hf rfl (yl_load Try.underlying25 rfl rfl ⟨_, .tail _ (.tail _ (.tail _ (.tail _ (.tail _ (.tail _ (.tail _ (.tail _ (.head _)))))))), _, _, _, pt_self _ _, rfl⟩) rfl rfl ?_; intro a hf
                refine rd hf rfl (yl_nil rfl) rfl rfl ?_; intro a hf
                refine rd hf rfl (yl_faddr Try.underlying106 rfl rfl sz_37 (k := 3) rfl) rfl rfl ?_; intro a hf
                refine rd hf rfl (yl_load Try.underlying37 rfl rfl ⟨_, .head _, _, _, _, pt_self _ _, rfl⟩) rfl rfl ?_; intro a hf
                refine rd hf rfl (yl_move rfl) rfl rfl ?_; intro a hf
                refine rd hf rfl (yl_indexE rfl rfl Try.underlying37 sz_2 (hO.els (.tail _ (.tail _ (.tail _ (.tail _ (.tail _ (.head _))))))) (by omega) (by omega)) rfl rfl ?_; intro a hf
                refine rd hf rfl (yl_load Try.underlying2 rfl rfl ((hO.els (.tail _ (.tail _ (.tail _ (.tail _ (.tail _ (.head _))))))).cell hj (f := 0) rfl)) rfl rfl ?_; intro a hf
                refine rd hf rfl (yl_assign rfl) rfl rfl ?_; intro a hf
                refine plan_nil ?_
                replace hf := hf.sel [12, 11, 10, 2] (l' := [(12, _), (11, _), (10, _), (2, _)]) rfl
                refine wpIn_seq ?_
                -- region 20 (buffer.go:129)
                refine wp_reg ([]) ([_, _, _, _, _, _, _, _, _] ++ rs) [(0, true), (1, true), (2, true), (3, true), (4, true), (5, true), (6, true), (7, true), (8, true), (9, false)] mixed (by kernel_rfl) (hT) ?_; intro w hT
                refine rd hf rfl (yl_load Try.underlying25 rfl rfl ⟨_, .tail _ (.tail _ (.tail _ (.tail _ (.tail _ (.tail _ (.tail _ (.tail _ (.head _)))))))), _, _, _, pt_self _ _, rfl⟩) rfl rfl ?_; intro a hf
                refine rd hf rfl (yl_load Try.underlying25 rfl rfl ⟨_, .tail _ (.tail _ (.tail _ (.tail _ (.tail _ (.tail _ (.tail _ (.tail _ (.head _)))))))), _, _, _, pt_self _ _, rfl⟩) rfl rfl ?_; intro a hf
                refine rd hf rfl (yl_nil rfl) rfl rfl ?_; intro a hf
                refine rd hf rfl (yl_faddr Try.underlying106 rfl rfl sz_37 (k := 3) rfl) rfl rfl ?_; intro a hf
                refine rd hf rfl (yl_load Try.underlying37 rfl rfl ⟨_, .head _, _, _, _, pt_self _ _, rfl⟩) rfl rfl ?_; intro a hf
                refine rd hf rfl (yl_move rfl) rfl rfl ?_; intro a hf
                refine rd hf rfl (yl_slice (L := 0) (H := s'.L.length - 1) (A := A1) (c := c1) (congrArg some hv1) Try.underlying37 sz_2 rfl (idxI (by omega)) (Nat.zero_le _) (by omega)) rfl rfl ?_; intro a hf
                refine rd hf rfl (yl_nil rfl) rfl rfl ?_; intro a hf
                refine rd hf rfl (yl_faddr Try.underlying106 rfl rfl sz_37 (k := 3) rfl) rfl rfl ?_; intro a hf
                replace hT : Tot _ _ ([_] ++ ([_, _, _, _, _, _, _, _] ++ rs)) := hT.bring 0
                refine efS_last hf hT rfl rfl (by kernel_rfl) (ef_store rfl rfl sz_37 rfl rfl) ?_; rintro w L rfl hT
                replace hf := hf.sel [12, 10, 2] (l' := [(12, _), (10, _), (2, _)]) rfl
                refine wpIn_seq ?_
                have hBMc : BufM b s' (.slice (if c1 = 0 then A1 else A1.map (·.add (0 * 1))) (s'.L.length - 1 - 0) (c1 - 0)) [_, _, _, _] := ⟨br, _, bs, _, bt, _, _, _, _, rfl, hMr, hMs, hMt, hM⟩
                -- region 21 (buffer.go:130)
                refine wp_reg ([]) ([_, _, _, _, _, _, _, _, _] ++ rs) [(0, true), (1, true), (2, false)] mixed (by kernel_rfl) (hT) ?_; intro w hT
                refine rd hf rfl (yl_load Try.underlying25 rfl rfl ⟨_, .tail _ (.tail _ (.tail _ (.tail _ (.tail _ (.tail _ (.tail _ (.tail _ (.head _)))))))), _, _, _, pt_self _ _, rfl⟩) rfl rfl ?_; intro a hf
                refine rd hf rfl (yl_move rfl) rfl rfl ?_; intro a hf
                replace hT : Tot _ _ ([_] ++ ([_, _, _, _, _, _, _, _] ++ rs)) := hT.bring 3
                replace hT : Tot _ _ ([_, _] ++ ([_, _, _, _, _, _, _] ++ rs)) := hT.bring 3
                replace hT : Tot _ _ ([_, _, _] ++ ([_, _, _, _, _, _] ++ rs)) := hT.bring 3
                replace hT : Tot _ _ ([_, _, _, _] ++ ([_, _, _, _, _] ++ rs)) := hT.bring 3
                refine ef_call_last hf rfl (wanted_none _ _ rfl) (by kernel_rfl) rfl rfl (by kernel_rfl) (Spec.frame (L2 := []) (remove_spec b s' _ _ hBMc x.r.id x hfx (by unfold inI64; omega) hT)) rfl (l' := [(124, _), (123, _), (12, _), (10, _), (2, _)]) rfl ?_; rintro a w v L ⟨L1, ⟨Lb3, hBM4, rfl⟩, rfl⟩ hf hT
                have hBM5 : BufM b (drp s' x) _ _ := hBM4
                obtain ⟨br, xr, bs, xs, bt, xt, mr, ms, mt, rfl, hMr, hMs, hMt, hM⟩ := hBM4
                replace hf := hf.sel [12, 10, 2] (l' := [(12, _), (10, _), (2, _)]) rfl
                -- region 22 (buffer.go:131)
                refine wp_reg ([_]) ([_, _, _, _, _, _, _, _] ++ rs) [(0, true), (1, true), (2, false), (3, false), (4, true)] mixed (by kernel_rfl) (hT.brings [4]) ?_; intro w hT
                refine rd hf rfl (yl_move rfl) rfl rfl ?_; intro a hf
                refine rd hf rfl (yl_move rfl) rfl rfl ?_; intro a hf
                refine ef hf hT rfl rfl (ef_buildSlice (E := encI) (xs := [x.r.id]) rfl rfl Try.underlying37 zs_2 rfl (by decide) rfl (by decide)) rfl (l' := [(127, _), (126, _), (12, _), (10, _), (2, _)]) rfl ?_; rintro a w onex L ⟨b7, p4, hvp4, hp4, rfl⟩ hf hT
                replace hT : Tot _ _ ([_, _] ++ ([_, _, _, _, _, _, _, _] ++ rs)) := hT.bring 1
                refine ef hf hT rfl rfl (ef_append (E := encI) (L := [_]) rfl rfl Try.underlying37 zb_2 rfl hD (hp4.els (.tail _ (.head _))) (by simp; omega) (by simp [maxLen]; omega)) rfl (l' := [(128, _), (127, _), (126, _), (12, _), (10, _), (2, _)]) rfl ?_; rintro a w q2 L ⟨X3, hS3, rfl⟩ hf hT
                refine rw_ hf rfl (yl_assign rfl) rfl (l' := [(10, _), (129, _), (128, _), (127, _), (126, _), (12, _), (2, _)]) rfl ?_; intro a hf
                refine plan_nil ?_
                replace hf := hf.sel [10, 2] (l' := [(10, _), (2, _)]) rfl
                exact ⟨(drp s' x, d ++ [x.r.id], q2, (.slice (if c1 = 0 then A1 else A1.map (·.add (0 * 1))) (s'.L.length - 1 - 0) (c1 - 0))), _, hf.sel [10, 2] rfl, ⟨hIv.drp hx, hG.step (.dr x hfull hnn hx), by rw [drp_L hIv hx, List.length_append, List.length_dropLast, List.length_singleton]; omega, _, XO, _, hS3, hcut2, hBM5, rfl⟩, ((hT.brings [1]).tail.brings [8, 8, 8, 7, 7, 7, 7, 8, 8]), meas_drp hIv hx⟩
            · have hgT3 : decide (((ids s'.L).length : Int) ≤ 256) = false := by simpa using hg6
              have hnn : s'.L.length ≤ 256 → squeeze s'.L = none := fun h => by omega
              refine rdF hf rfl rfl rfl rfl (by first | exact hgT3 | simp [hgT3]) rfl (l' := [(98, _), (97, _), (96, _), (95, _), (94, _), (93, _), (92, _), (91, _), (90, _), (10, _), (2, _)]) rfl ?_; intro a hf
              refine efF hf rfl rfl rfl rfl (by first | exact hgT3 | simp [hgT3]) hT.allR (by simp [Nat.blt]) (l' := [(99, _), (98, _), (97, _), (96, _), (95, _), (94, _), (93, _), (92, _), (91, _), (90, _), (10, _), (2, _)]) rfl ?_; intro a hf
              refine rd hf rfl (yl_pickFF rfl hgT3 rfl) rfl rfl ?_; intro a hf
              refine plan_nil ?_
              replace hf := hf.sel [100, 10, 2] (l' := [(100, _), (10, _), (2, _)]) rfl
              refine wp_ifFF hf rfl (rfl) ?_
              refine wpIn_skip ?_
              refine wpIn_seq ?_
              obtain ⟨x, hx⟩ := last_of_full hIv hfull
              have hne : 0 < s'.L.length := by cases hq : s'.L with | nil => rw [hq] at hx; cases hx | cons a l => simp
              have hj : (ids s'.L)[((((ids s'.L).length : Nat) : Int) - 1).toNat]? = some x.r.id := by rw [show ((((ids s'.L).length : Nat) : Int) - 1).toNat = s'.L.length - 1 by omega]; simp only [ids, List.getElem?_map]; rw [← List.getLast?_eq_getElem?, hx]; rfl
              have hxm : x ∈ s'.L := List.mem_of_getLast? hx
              have hfx := fnd_of_mem hIv.nd hxm
              have hbx := bytes_rng (hIv.ok x hxm)
              have hOs : Sl encI 2 (.slice A1 (ids s'.L).length c1) (ids s'.L) XO := by rw [← hv1]; exact hO
              have hcut := hOs.cut (H := s'.L.length - 1) (by omega)
              have hcut2 : Sl encI 2 (.slice (if c1 = 0 then A1 else A1.map (·.add (0 * 1))) (s'.L.length - 1 - 0) (c1 - 0)) (ids (drp s' x).L) XO := by rw [show ids (drp s' x).L = (ids s'.L).take (s'.L.length - 1) by rw [drp_L hIv hx, ids, ids, List.map_dropLast, List.dropLast_eq_take, List.length_map]]; exact hcut
              -- region 18 (buffer.go:127)
              refine wp_reg ([]) ([_, _, _, _, _, _, _, _, _] ++ rs) [(0, true), (1, true), (2, true), (3, true), (4, true), (5, true), (6, true)] mixed (by kernel_rfl) (hT) ?_; intro w hT
              refine rd hf rfl (yl_load Try.underlying25 rfl rfl ⟨_, .tail _ (.tail _ (.tail _ (.tail _ (.tail _ (.tail _ (.tail _ (.tail _ (.head _)))))))), _, _, _, pt_self _ _, rfl⟩) rfl rfl ?_; intro a hf
              refine rd hf rfl (yl_nil rfl) rfl rfl ?_; intro a hf
              refine rd hf rfl (yl_faddr Try.underlying106 rfl rfl sz_37 (k := 3) rfl) rfl rfl ?_; intro a hf
              refine rd hf rfl (yl_load Try.underlying37 rfl rfl ⟨_, .head _, _, _, _, pt_self _ _, rfl⟩) rfl rfl ?_; intro a hf
              refine rd hf rfl (yl_lenE rfl Try.underlying37 (hO.els (.tail _ (.tail _ (.tail _ (.tail _ (.tail _ (.head _)))))))) rfl rfl ?_; intro a hf
              refine rd hf rfl (yl_sub rfl rfl (by unfold inI64; omega)) rfl rfl ?_; intro a hf
              refine rd hf rfl (yl_assign rfl) rfl rfl ?_; intro a hf
              refine plan_nil ?_
              replace hf := hf.sel [11, 10, 2] (l' := [(11, _), (10, _), (2, _)]) rfl
              refine wpIn_seq ?_
              -- region 19 (buffer.go:128)
              refine wp_reg ([]) ([_, _, _, _, _, _, _, _, _] ++ rs) [(0, true), (1, true), (2, true), (3, true), (4, true), (5, true), (6, true), (7, true)] mixed (by kernel_rfl) (hT) ?_; intro w hT
              refine rd hf rfl (yl_load Try.underlying25 rfl rfl ⟨_, .tail _ (.tail _ (.tail _ (.tail _ (.tail _ (.tail _ (.tail _ (.tail _ (.head _)))))))), _, _, _, pt_self _ _, rfl⟩) rfl rfl ?_; intro a hf
              refine rd hf rfl (yl_nil rfl) rfl rfl ?_; intro a hf
              refine rd hf rfl (yl_faddr Try.underlying106 rfl rfl sz_37 (k := 3) rfl) rfl rfl ?_; intro a hf
              refine rd hf rfl (yl_load Try.underlying37 rfl rfl ⟨_, .head _, _, _, _, pt_self _ _, rfl⟩) rfl rfl ?_; intro a hf
              refine rd hf rfl (yl_move rfl) rfl rfl ?_; intro a hf
              refine rd hf rfl (yl_indexE rfl rfl Try.underlying37 sz_2 (hO.els (.tail _ (.tail _ (.tail _ (.tail _ (.tail _ (.head _))))))) (by omega) (by omega)) rfl rfl ?_; intro a hf
              refine rd hf rfl (yl_load Try.underlying2 rfl rfl ((hO.els (.tail _ (.tail _ (.tail _ (.tail _ (.tail _ (.head _))))))).cell hj (f := 0) rfl)) rfl rfl ?_; intro a hf
              refine rd hf rfl (yl_assign rfl) rfl rfl ?_; intro a hf
              refine plan_nil ?_
              replace hf := hf.sel [12, 11, 10, 2] (l' := [(12, _), (11, _), (10, _), (2, _)]) rfl
              refine wpIn_seq ?_
              -- region 20 (buffer.go:129)
              refine wp_reg ([]) ([_, _, _, _, _, _, _, _, _] ++ rs) [(0, true), (1, true), (2, true), (3, true), (4, true), (5, true), (6, true), (7, true), (8, true), (9, false)] mixed (by kernel_rfl) (hT) ?_; intro w hT
              refine rd hf rfl (yl_load Try.underlying25 rfl rfl ⟨_, .tail _ (.tail _ (.tail _ (.tail _ (.tail _ (.tail _ (.tail _ (.tail _ (.head _)))))))), _, _, _, pt_self _ _, rfl⟩) rfl rfl ?_; intro a hf
              refine rd hf rfl (yl_load Try.underlying25 rfl rfl ⟨_, .tail _ (.tail _ (.tail _ (.tail _ (.tail _ (.tail _ (.tail _ (.tail _ (.head _)))))))), _, _, _, pt_self _ _, rfl⟩) rfl rfl ?_; intro a hf
              refine rd hf rfl (yl_nil rfl) rfl rfl ?_; intro a hf
              refine rd hf rfl (yl_faddr Try.underlying106 rfl rfl sz_37 (k := 3) rfl) rfl rfl ?_; intro a hf
              refine rd hf rfl (yl_load Try.underlying37 rfl rfl ⟨_, .head _, _, _, _, pt_self _ _, rfl⟩) rfl rfl ?_; intro a hf
              refine rd hf rfl (yl_move rfl) rfl rfl ?_; intro a hf
              refine rd hf rfl (yl_slice (L := 0) (H := s'.L.length - 1) (A := A1) (c := c1) (congrArg some hv1) Try.underlying37 sz_2 rfl (idxI (by omega)) (Nat.zero_le _) (by omega)) rfl rfl ?_; intro a hf
              refine rd hf rfl (yl_nil rfl) rfl rfl ?_; intro a hf
              refine rd hf rfl (yl_faddr Try.underlying106 rfl rfl sz_37 (k := 3) rfl) rfl rfl ?_; intro a hf
              replace hT : Tot _ _ ([_] ++ ([_, _, _, _, _, _, _, _] ++ rs)) := hT.bring 0
              refine efS_last hf hT rfl rfl (by kernel_rfl) (ef_store rfl rfl sz_37 rfl rfl) ?_; rintro w L rfl hT
              replace hf := hf.sel [12, 10, 2] (l' := [(12, _), (10, _), (2, _)]) rfl
              refine wpIn_seq ?_
              have hBMc : BufM b s' (.slice (if c1 = 0 then A1 else A1.map (·.add (0 * 1))) (s'.L.length - 1 - 0) (c1 - 0)) [_, _, _, _] := ⟨br, _, bs, _, bt, _, _, _, _, rfl, hMr, hMs, hMt, hM⟩
              -- region 21 (buffer.go:130)
              refine wp_reg ([]) ([_, _, _, _, _, _, _, _, _] ++ rs) [(0, true), (1, true), (2, false)] mixed (by kernel_rfl) (hT) ?_; intro w hT
              refine rd hf rfl (yl_load Try.underlying25 rfl rfl ⟨_, .tail _ (.tail _ (.tail _ (.tail _ (.tail _ (.tail _ (.tail _ (.tail _ (.head _)))))))), _, _, _, pt_self _ _, rfl⟩) rfl rfl ?_; intro a hf
              refine rd hf rfl (yl_move rfl) rfl rfl ?_; intro a hf
              replace hT : Tot _ _ ([_] ++ ([_, _, _, _, _, _, _, _] ++ rs)) := hT.bring 3
              replace hT : Tot _ _ ([_, _] ++ ([_, _, _, _, _, _, _] ++ rs)) := hT.bring 3
              replace hT : Tot _ _ ([_, _, _] ++ ([_, _, _, _, _, _] ++ rs)) := hT.bring 3
              replace hT : Tot _ _ ([_, _, _, _] ++ ([_, _, _, _, _] ++ rs)) := hT.bring 3
              refine ef_call_last hf rfl (wanted_none _ _ rfl) (by kernel_rfl) rfl rfl (by kernel_rfl) (Spec.frame (L2 := []) (remove_spec b s' _ _ hBMc x.r.id x hfx (by unfold inI64; omega) hT)) rfl (l' := [(124, _), (123, _), (12, _), (10, _), (2, _)]) rfl ?_; rintro a w v L ⟨L1, ⟨Lb3, hBM4, rfl⟩, rfl⟩ hf hT
              have hBM5 : BufM b (drp s' x) _ _ := hBM4
              obtain ⟨br, xr, bs, xs, bt, xt, mr, ms, mt, rfl, hMr, hMs, hMt, hM⟩ := hBM4
              replace hf := hf.sel [12, 10, 2] (l' := [(12, _), (10, _), (2, _)]) rfl
              -- region 22 (buffer.go:131)
              refine wp_reg ([_]) ([_, _, _, _, _, _, _, _] ++ rs) [(0, true), (1, true), (2, false), (3, false), (4, true)] mixed (by kernel_rfl) (hT.brings [4]) ?_; intro w hT
              refine rd hf rfl (yl_move rfl) rfl rfl ?_; intro a hf
              refine rd hf rfl (yl_move rfl) rfl rfl ?_; intro a hf
              refine ef hf hT rfl rfl (ef_buildSlice (E := encI) (xs := [x.r.id]) rfl rfl Try.underlying37 zs_2 rfl (by decide) rfl (by decide)) rfl (l' := [(127, _), (126, _), (12, _), (10, _), (2, _)]) rfl ?_; rintro a w onex L ⟨b8, p5, hvp5, hp5, rfl⟩ hf hT
              replace hT : Tot _ _ ([_, _] ++ ([_, _, _, _, _, _, _, _] ++ rs)) := hT.bring 1
              refine ef hf hT rfl rfl (ef_append (E := encI) (L := [_]) rfl rfl Try.underlying37 zb_2 rfl hD (hp5.els (.tail _ (.head _))) (by simp; omega) (by simp [maxLen]; omega)) rfl (l' := [(128, _), (127, _), (126, _), (12, _), (10, _), (2, _)]) rfl ?_; rintro a w q2 L ⟨X4, hS4, rfl⟩ hf hT
              refine rw_ hf rfl (yl_assign rfl) rfl (l' := [(10, _), (129, _), (128, _), (127, _), (126, _), (12, _), (2, _)]) rfl ?_; intro a hf
              refine plan_nil ?_
              replace hf := hf.sel [10, 2] (l' := [(10, _), (2, _)]) rfl
              exact ⟨(drp s' x, d ++ [x.r.id], q2, (.slice (if c1 = 0 then A1 else A1.map (·.add (0 * 1))) (s'.L.length - 1 - 0) (c1 - 0))), _, hf.sel [10, 2] rfl, ⟨hIv.drp hx, hG.step (.dr x hfull hnn hx), by rw [drp_L hIv hx, List.length_append, List.length_dropLast, List.length_singleton]; omega, _, XO, _, hS4, hcut2, hBM5, rfl⟩, ((hT.brings [1]).tail.brings [8, 8, 8, 7, 7, 7, 7, 8, 8]), meas_drp hIv hx⟩
          · -- else
            refine wpIn_exit ?_
            refine then_exit ?_
            refine then_exit ?_
            refine inBlock_hit ?_
            refine wpIn_seq ?_
            -- region 23 (buffer.go:133)
            refine wp_reg ([]) ([_, _, _, _, _, _, _, _, _] ++ rs) [(0, true), (1, true), (2, true)] mixed (by kernel_rfl) (hT) ?_; intro w hT
            refine rd hf rfl (yl_move rfl) rfl rfl ?_; intro a hf
            refine rd hf rfl (yl_assign rfl) rfl rfl ?_; intro a hf
            refine rd hf rfl (yl_assign rfl) rfl rfl ?_; intro a hf
            refine plan_nil ?_
            replace hf := hf.sel [5, 4] (l' := [(5, _), (4, _)]) rfl
            refine wpIn_ret ?_
            refine body_ret hf (L := [_, _, _, _, _, _]) ((hT.brings [8, 8, 8]).tail.tail.tail) rfl rfl ?_
            rw [if_neg (not_not_intro hrok), if_neg hnin, if_neg hcp]
            exact ⟨s', d, q, XD, _, rfl, hD, ⟨vo', XO, _, rfl, hO, hBM0⟩, rfl, hG, fun hf => by rcases hf with hf | hf; exact hg9 hf; omega⟩
end Go.Proofs.Ytjhbgciocffihaa
