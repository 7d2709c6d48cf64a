-- written by gen.py out of walks texts of my own
import Derived.Test.YtjhbgciocffihaaB15
set_option linter.unusedVariables false
set_option linter.unusedSimpArgs false
set_option maxHeartbeats 4000000
namespace Go.Proofs.Ytjhbgciocffihaa
def Oor (s : BS) (n t wt : Int) : Prop := (n < 0 ∨ 16777216 < n) ∨ (t < s.time ∨ 1073741824 < t) ∨ (wt < 0 ∨ 1073741824 < wt)
instance (s : BS) (n t wt : Int) : Decidable (Oor s n t wt) := by unfold Oor; infer_instance
theorem Burst_spec {e : Env} {w : World} {rs : List Part} (b : Nat) (s : BS) (vo : Value) (x0 : Part) (Lb : List Part) (hS : Sl encI 2 vo (ids s.L) x0) (hB : BufM b s vo Lb) (hI : Inv s) (hlen : s.L.length ≤ 256) (htime : 0 ≤ s.time) (n t wt : Int) (hT : Tot e w ((x0 :: Lb) ++ rs)) : Spec Try.prog 21 #[.pointer (some ⟨b, 0, none⟩), .int .i64 n, .int .i64 t, .int .i64 wt] e w rs (fun v L => if Oor s n t wt then v = .tuple #[.slice none 0 0, .int .i64 3] ∧ BufR b s L else ∃ q X Lb', v = .tuple #[q, .int .i64 0] ∧ Sl encI 2 q (bfold n (s.L.filter (due t wt))).2 X ∧ BufR b (bst s n t wt) Lb' ∧ L = X :: Lb') := by
  refine spec_body Try.func21 rfl Try.ntmps21 rfl rfl ?_
  intro a hf
  have hB0 := hB
  obtain ⟨br, xr, bs, xs, bt, xt, mr, ms, mt, rfl, hMr, hMs, hMt, hM⟩ := hB
  refine wpIn_seq ?_
  -- region 0 (buffer.go:151)
  refine wp_reg ([]) ([_, _, _, _, _] ++ rs) [(0, false), (1, false), (2, true), (3, true)] mixed (by kernel_rfl) (hT) ?_; intro w hT
  refine ef hf hT rfl rfl (ef_box rfl) rfl (l' := [(0, _), (1, _), (2, _), (3, _)]) rfl ?_; rintro a w v L ⟨b1, rfl, rfl⟩ hf hT
  refine ef hf hT rfl rfl (ef_box rfl) rfl (l' := [(4, _), (0, _), (1, _), (2, _), (3, _)]) rfl ?_; rintro a w v L ⟨b2, rfl, rfl⟩ hf hT
  refine rd hf rfl (yl_assign rfl) rfl rfl ?_; intro a hf
  refine rd hf rfl (yl_assign rfl) rfl rfl ?_; intro a hf
  refine plan_nil ?_
  replace hf := hf.sel [5, 4, 2, 3] (l' := [(5, _), (4, _), (2, _), (3, _)]) rfl
  refine wpIn_seq ?_
  refine wpIn_seq ?_
  -- region 1 (buffer.go:152)
  refine wp_reg ([]) ([_, _, _, _, _, _, _] ++ rs) [(0, true), (1, false), (2, true)] mixed (by kernel_rfl) (hT) ?_; intro w hT
  refine rd hf rfl (yl_load Try.underlying25 rfl rfl ⟨_, .tail _ (.head _), _, _, _, pt_self _ _, rfl⟩) rfl rfl ?_; intro a hf
  refine ef_call hf rfl (wanted_none _ _ rfl) rfl rfl (by kernel_rfl) (Spec.frame (L2 := []) (valid_spec b s vo (hB0.inn (fun x hx => by rcases mem4 hx with rfl | rfl | rfl | rfl; exact .tail _ (.tail _ (.tail _ (.head _))); exact .tail _ (.tail _ (.tail _ (.tail _ (.head _)))); exact .tail _ (.tail _ (.tail _ (.tail _ (.tail _ (.head _))))); exact .tail _ (.tail _ (.tail _ (.tail _ (.tail _ (.tail _ (.head _)))))))) hT)) rfl (l' := [(15, _), (5, _), (4, _), (2, _), (3, _)]) rfl ?_; rintro a w v L ⟨L1, ⟨rfl, rfl⟩, rfl⟩ hf hT
  refine rd hf rfl (yl_not rfl) rfl rfl ?_; intro a hf
  refine plan_nil ?_
  refine wp_ifFF hf rfl (rfl) ?_
  refine wpIn_skip ?_
  refine wpIn_seq ?_
  refine wpIn_seq ?_
  -- region 3 (buffer.go:155)
  refine wp_reg ([]) ([_, _, _, _, _, _, _] ++ rs) [(0, true), (1, false), (2, true), (3, true), (4, true), (5, true), (6, true), (7, true), (8, false), (9, true), (10, true), (11, true), (12, false), (13, true)] mixed (by kernel_rfl) (hT) ?_; intro w hT
  refine rd hf rfl (yl_load Try.underlying2 rfl rfl ⟨_, .head _, _, _, _, pt_self _ _, rfl⟩) rfl rfl ?_; intro a hf
  refine ef_call hf rfl (wanted_none _ _ rfl) rfl rfl (by kernel_rfl) (Spec.frame (L2 := []) (outside_spec _ _ _ hT)) rfl (l' := [(18, _), (17, _), (16, _), (15, _), (5, _), (4, _), (2, _), (3, _)]) rfl ?_; rintro a w v L ⟨L1, ⟨rfl, rfl⟩, rfl⟩ hf hT
  refine rd hf rfl (yl_move rfl) rfl rfl ?_; intro a hf
  by_cases hg2 : n < 0 ∨ 16777216 < n
  · have hgT1 : decide (n < 0 ∨ 16777216 < n) = true := by simpa using hg2
    have hbad : Oor s n t wt := .inl hg2
    refine rdF hf rfl rfl rfl rfl (by first | exact hgT1 | simp [hgT1]) rfl (l' := [(21, _), (20, _), (19, _), (18, _), (17, _), (16, _), (15, _), (5, _), (4, _), (2, _), (3, _)]) rfl ?_; intro a hf
    refine rdF hf rfl rfl rfl rfl (by first | exact hgT1 | simp [hgT1]) rfl (l' := [(22, _), (21, _), (20, _), (19, _), (18, _), (17, _), (16, _), (15, _), (5, _), (4, _), (2, _), (3, _)]) rfl ?_; intro a hf
    refine rdF hf rfl rfl rfl rfl (by first | exact hgT1 | simp [hgT1]) rfl (l' := [(23, _), (22, _), (21, _), (20, _), (19, _), (18, _), (17, _), (16, _), (15, _), (5, _), (4, _), (2, _), (3, _)]) rfl ?_; intro a hf
    refine rdF hf rfl rfl rfl rfl (by first | exact hgT1 | simp [hgT1]) rfl (l' := [(24, _), (23, _), (22, _), (21, _), (20, _), (19, _), (18, _), (17, _), (16, _), (15, _), (5, _), (4, _), (2, _), (3, _)]) rfl ?_; intro a hf
    refine rdF hf rfl rfl rfl rfl (by first | exact hgT1 | simp [hgT1]) rfl (l' := [(25, _), (24, _), (23, _), (22, _), (21, _), (20, _), (19, _), (18, _), (17, _), (16, _), (15, _), (5, _), (4, _), (2, _), (3, _)]) rfl ?_; intro a hf
    refine efF hf rfl rfl rfl rfl (by first | exact hgT1 | simp [hgT1]) hT.allR (by simp [Nat.blt]) (l' := [(26, _), (25, _), (24, _), (23, _), (22, _), (21, _), (20, _), (19, _), (18, _), (17, _), (16, _), (15, _), (5, _), (4, _), (2, _), (3, _)]) rfl ?_; intro a hf
    refine rd hf rfl (yl_pickTT rfl hgT1 rfl) rfl rfl ?_; intro a hf
    refine rd hf rfl (yl_move rfl) rfl rfl ?_; intro a hf
    refine rdF hf rfl rfl rfl rfl (rfl) rfl (l' := [(29, _), (28, _), (27, _), (26, _), (25, _), (24, _), (23, _), (22, _), (21, _), (20, _), (19, _), (18, _), (17, _), (16, _), (15, _), (5, _), (4, _), (2, _), (3, _)]) rfl ?_; intro a hf
    refine efF hf rfl rfl rfl rfl (rfl) hT.allR (by simp [Nat.blt]) (l' := [(30, _), (29, _), (28, _), (27, _), (26, _), (25, _), (24, _), (23, _), (22, _), (21, _), (20, _), (19, _), (18, _), (17, _), (16, _), (15, _), (5, _), (4, _), (2, _), (3, _)]) rfl ?_; intro a hf
    refine rd hf rfl (yl_pickTT rfl rfl rfl) rfl rfl ?_; intro a hf
    refine plan_nil ?_
    replace hf := hf.sel [31, 5, 4, 2, 3] (l' := [(31, _), (5, _), (4, _), (2, _), (3, _)]) rfl
    refine wp_ifTT hf rfl (rfl) ?_
    refine wpIn_seq ?_
    -- region 4 (buffer.go:156)
    refine wp_reg ([]) ([_, _, _, _, _, _, _] ++ rs) [(0, true), (1, true)] mixed (by kernel_rfl) (hT) ?_; intro w hT
    refine rd hf rfl (yl_assign rfl) rfl rfl ?_; intro a hf
    refine rd hf rfl (yl_assign rfl) rfl rfl ?_; intro a hf
    refine plan_nil ?_
    replace hf := hf.sel [9, 8] (l' := [(9, _), (8, _)]) rfl
    refine wpIn_ret ?_
    refine body_ret hf (L := [_, _, _, _, _]) ((hT.brings [1, 1]).tail.tail) rfl rfl ?_
    rw [if_pos hbad]; exact ⟨rfl, vo, _, _, rfl, hS, hB0⟩
  · have hgT1 : decide (n < 0 ∨ 16777216 < n) = false := by simpa using hg2
    refine rdT hf rfl rfl rfl rfl (by first | exact hgT1 | simp [hgT1]) (yl_move rfl) rfl (l' := [(21, _), (20, _), (19, _), (18, _), (17, _), (16, _), (15, _), (5, _), (4, _), (2, _), (3, _)]) rfl ?_; intro a hf
    refine rdT hf rfl rfl rfl rfl (by first | exact hgT1 | simp [hgT1]) (yl_load Try.underlying25 rfl rfl ⟨_, .tail _ (.head _), _, _, _, pt_self _ _, rfl⟩) rfl (l' := [(22, _), (21, _), (20, _), (19, _), (18, _), (17, _), (16, _), (15, _), (5, _), (4, _), (2, _), (3, _)]) rfl ?_; intro a hf
    refine rdT hf rfl rfl rfl rfl (by first | exact hgT1 | simp [hgT1]) (yl_nil rfl) rfl (l' := [(23, _), (22, _), (21, _), (20, _), (19, _), (18, _), (17, _), (16, _), (15, _), (5, _), (4, _), (2, _), (3, _)]) rfl ?_; intro a hf
    refine rdT hf rfl rfl rfl rfl (by first | exact hgT1 | simp [hgT1]) (yl_faddr Try.underlying106 rfl rfl sz_2 (k := 2) rfl) rfl (l' := [(24, _), (23, _), (22, _), (21, _), (20, _), (19, _), (18, _), (17, _), (16, _), (15, _), (5, _), (4, _), (2, _), (3, _)]) rfl ?_; intro a hf
    refine rdT hf rfl rfl rfl rfl (by first | exact hgT1 | simp [hgT1]) (yl_load Try.underlying2 rfl rfl ⟨_, .tail _ (.tail _ (.tail _ (.head _))), _, _, _, pt_self _ _, rfl⟩) rfl (l' := [(25, _), (24, _), (23, _), (22, _), (21, _), (20, _), (19, _), (18, _), (17, _), (16, _), (15, _), (5, _), (4, _), (2, _), (3, _)]) rfl ?_; intro a hf
    refine ef_call hf rfl (by rw [wanted_some hf rfl rfl rfl rfl]; first | exact beqT hgT1 | simp [hgT1]) rfl rfl (by kernel_rfl) (Spec.frame (L2 := []) (outside_spec _ _ _ hT)) rfl (l' := [(25, _), (24, _), (23, _), (22, _), (21, _), (20, _), (19, _), (18, _), (17, _), (16, _), (15, _), (5, _), (4, _), (2, _), (3, _)]) rfl ?_; rintro a w v L ⟨L1, ⟨rfl, rfl⟩, rfl⟩ hf hT
    refine rd hf rfl (yl_pickFF rfl hgT1 rfl) rfl rfl ?_; intro a hf
    refine rd hf rfl (yl_move rfl) rfl rfl ?_; intro a hf
    by_cases hg10 : t < s.time ∨ 1073741824 < t
    · have hgT2 : decide (t < s.time ∨ 1073741824 < t) = true := by simpa using hg10
      have hbad : Oor s n t wt := .inr (.inl hg10)
      refine rdF hf rfl rfl rfl rfl (by first | exact hgT2 | simp [hgT2]) rfl (l' := [(29, _), (28, _), (27, _), (26, _), (25, _), (24, _), (23, _), (22, _), (21, _), (20, _), (19, _), (18, _), (17, _), (16, _), (15, _), (5, _), (4, _), (2, _), (3, _)]) rfl ?_; intro a hf
      refine efF hf rfl rfl rfl rfl (by first | exact hgT2 | simp [hgT2]) hT.allR (by simp [Nat.blt]) (l' := [(30, _), (29, _), (28, _), (27, _), (26, _), (25, _), (24, _), (23, _), (22, _), (21, _), (20, _), (19, _), (18, _), (17, _), (16, _), (15, _), (5, _), (4, _), (2, _), (3, _)]) rfl ?_; intro a hf
      refine rd hf rfl (yl_pickTT rfl hgT2 rfl) rfl rfl ?_; intro a hf
      refine plan_nil ?_
      replace hf := hf.sel [31, 5, 4, 2, 3] (l' := [(31, _), (5, _), (4, _), (2, _), (3, _)]) rfl
      refine wp_ifTT hf rfl (rfl) ?_
      refine wpIn_seq ?_
      -- region 4 (buffer.go:156)
      refine wp_reg ([]) ([_, _, _, _, _, _, _] ++ rs) [(0, true), (1, true)] mixed (by kernel_rfl) (hT) ?_; intro w hT
      refine rd hf rfl (yl_assign rfl) rfl rfl ?_; intro a hf
      refine rd hf rfl (yl_assign rfl) rfl rfl ?_; intro a hf
      refine plan_nil ?_
      replace hf := hf.sel [9, 8] (l' := [(9, _), (8, _)]) rfl
      refine wpIn_ret ?_
      refine body_ret hf (L := [_, _, _, _, _]) ((hT.brings [1, 1]).tail.tail) rfl rfl ?_
      rw [if_pos hbad]; exact ⟨rfl, vo, _, _, rfl, hS, hB0⟩
    · have hgT2 : decide (t < s.time ∨ 1073741824 < t) = false := by simpa using hg10
      refine rdT hf rfl rfl rfl rfl (by first | exact hgT2 | simp [hgT2]) (yl_move rfl) rfl (l' := [(29, _), (28, _), (27, _), (26, _), (25, _), (24, _), (23, _), (22, _), (21, _), (20, _), (19, _), (18, _), (17, _), (16, _), (15, _), (5, _), (4, _), (2, _), (3, _)]) rfl ?_; intro a hf
      refine ef_call hf rfl (by rw [wanted_some hf rfl rfl rfl rfl]; first | exact beqT hgT2 | simp [hgT2]) rfl rfl (by kernel_rfl) (Spec.frame (L2 := []) (outside_spec _ _ _ hT)) rfl (l' := [(29, _), (28, _), (27, _), (26, _), (25, _), (24, _), (23, _), (22, _), (21, _), (20, _), (19, _), (18, _), (17, _), (16, _), (15, _), (5, _), (4, _), (2, _), (3, _)]) rfl ?_; rintro a w v L ⟨L1, ⟨rfl, rfl⟩, rfl⟩ hf hT
      refine rd hf rfl (yl_pickFF rfl hgT2 rfl) rfl rfl ?_; intro a hf
      refine plan_nil ?_
      replace hf := hf.sel [31, 5, 4, 2, 3] (l' := [(31, _), (5, _), (4, _), (2, _), (3, _)]) rfl
      refine wp_ifd hf rfl (fun hwt => ?_) (fun hwt => ?_)
      · -- then
        have hbad : Oor s n t wt := .inr (.inr hwt)
        refine wpIn_seq ?_
        -- region 4 (buffer.go:156)
        refine wp_reg ([]) ([_, _, _, _, _, _, _] ++ rs) [(0, true), (1, true)] mixed (by kernel_rfl) (hT) ?_; intro w hT
        refine rd hf rfl (yl_assign rfl) rfl rfl ?_; intro a hf
        refine rd hf rfl (yl_assign rfl) rfl rfl ?_; intro a hf
        refine plan_nil ?_
        replace hf := hf.sel [9, 8] (l' := [(9, _), (8, _)]) rfl
        refine wpIn_ret ?_
        refine body_ret hf (L := [_, _, _, _, _]) ((hT.brings [1, 1]).tail.tail) rfl rfl ?_
        rw [if_pos hbad]; exact ⟨rfl, vo, _, _, rfl, hS, hB0⟩
      · -- else
        have hgood : ¬ Oor s n t wt := fun h => by rcases h with h | h | h; exact hg2 h; exact hg10 h; exact hwt h
        have hn1 : 0 ≤ n ∧ n ≤ 16777216 := by omega
        have ht1 : 0 ≤ t ∧ t ≤ 1073741824 := by omega
        have hw1 : 0 ≤ wt ∧ wt ≤ 1073741824 := by omega
        refine wpIn_skip ?_
        refine wpIn_seq ?_
        -- region 5 (buffer.go:158)
        refine wp_reg ([]) ([_, _, _, _, _, _, _] ++ rs) [(0, true), (1, true), (2, true), (3, true), (4, false)] mixed (by kernel_rfl) (hT) ?_; intro w hT
        refine rd hf rfl (yl_load Try.underlying25 rfl rfl ⟨_, .tail _ (.head _), _, _, _, pt_self _ _, rfl⟩) rfl rfl ?_; intro a hf
        refine rd hf rfl (yl_move rfl) rfl rfl ?_; intro a hf
        refine rd hf rfl (yl_nil rfl) rfl rfl ?_; intro a hf
        refine rd hf rfl (yl_faddr Try.underlying106 rfl rfl sz_2 (k := 2) rfl) rfl rfl ?_; intro a hf
        replace hT : Tot _ _ ([_] ++ ([_, _, _, _, _, _] ++ rs)) := hT.bring 3
        refine efS_last hf hT rfl rfl (by kernel_rfl) (ef_store rfl rfl sz_2 rfl rfl) ?_; rintro w L rfl hT
        replace hf := hf.sel [5, 4, 2, 3] (l' := [(5, _), (4, _), (2, _), (3, _)]) rfl
        refine wpIn_seq ?_
        -- region 6 (buffer.go:159)
        refine wp_reg ([]) ([_, _, _, _, _, _, _] ++ rs) [(0, false)] mixed (by kernel_rfl) (hT) ?_; intro w hT
        refine ef hf hT rfl rfl (ef_alloc zr_37) rfl (l' := [(5, _), (4, _), (2, _), (3, _)]) rfl ?_; rintro a w v L ⟨b3, rfl, rfl⟩ hf hT
        refine plan_nil ?_
        refine wpIn_seq ?_
        refine wpIn_seq ?_
        -- region 7 (buffer.go:160)
        refine wp_reg ([]) ([_, _, _, _, _, _, _, _] ++ rs) [(0, true), (1, true), (2, true), (3, false)] mixed (by kernel_rfl) (hT) ?_; intro w hT
        refine rd hf rfl (yl_load Try.underlying25 rfl rfl ⟨_, .tail _ (.tail _ (.tail _ (.head _))), _, _, _, pt_self _ _, rfl⟩) rfl rfl ?_; intro a hf
        refine rd hf rfl (yl_move rfl) rfl rfl ?_; intro a hf
        refine rd hf rfl (yl_move rfl) rfl rfl ?_; intro a hf
        refine ef_call hf rfl (wanted_none _ _ rfl) rfl rfl (by kernel_rfl) (Spec.frame (L2 := []) (due_spec (.pointer (some ⟨b, 0, none⟩)) t wt hT)) rfl (l' := [(38, _), (37, _), (36, _), (10, _), (5, _), (4, _), (2, _), (3, _)]) rfl ?_; rintro a w v L ⟨L1, ⟨c1, c2, c3, rfl, rfl⟩, rfl⟩ hf hT
        refine plan_nil ?_
        replace hf := hf.sel [39, 10, 5, 4, 2] (l' := [(39, _), (10, _), (5, _), (4, _), (2, _)]) rfl
        refine wpIn_block ?_
        replace hT := hT.emp
        replace hT : Tot _ _ ([_, _, _] ++ ([_, _, _, _, _, _, _, _, _] ++ rs)) := (hT.brings [11, 11, 11, 8, 11, 11, 9, 9, 9, 9, 10, 11])
        have hB2 : BufM b { s with time := t } vo [_, _, _, _] := ⟨br, _, bs, _, bt, _, _, _, _, rfl, hMr, hMs, hMt, hM⟩
        generalize hRl : ([pt c1 (.cells _ 25), pt c2 _, pt c3 _, pt b1 _, _, _, _, _, _] ++ rs : List Part) = Rl at hT
        have hr1 : RowIn Rl c1 0 [.pointer (some ⟨b, 0, none⟩)] := (by rw [← hRl]; exact RowIn.of_block (.head _) (pt_self _ _) (fun j hj => by simp at hj; obtain rfl : j = 0 := (by omega); rfl))
        have hr2 : RowIn Rl c2 0 [.int .i64 t] := (by rw [← hRl]; exact RowIn.of_block (.tail _ (.head _)) (pt_self _ _) (fun j hj => by simp at hj; obtain rfl : j = 0 := (by omega); rfl))
        have hr3 : RowIn Rl c3 0 [.int .i64 wt] := (by rw [← hRl]; exact RowIn.of_block (.tail _ (.tail _ (.head _))) (pt_self _ _) (fun j hj => by simp at hj; obtain rfl : j = 0 := (by omega); rfl))
        have hrb : RowIn Rl b1 0 [.pointer (some ⟨b, 0, none⟩)] := (by rw [← hRl]; exact RowIn.of_block (.tail _ (.tail _ (.tail _ (.head _)))) (pt_self _ _) (fun j hj => by simp at hj; obtain rfl : j = 0 := (by omega); rfl))
        have hBm : BufMIn Rl b { s with time := t } vo := by rw [← hRl]; exact hB2.inn (fun x hx => by rcases mem4 hx with rfl | rfl | rfl | rfl; exact .tail _ (.tail _ (.tail _ (.tail _ (.tail _ (.head _))))); exact .tail _ (.tail _ (.tail _ (.tail _ (.tail _ (.tail _ (.head _)))))); exact .tail _ (.tail _ (.tail _ (.tail _ (.tail _ (.tail _ (.tail _ (.head _))))))); exact .tail _ (.tail _ (.tail _ (.tail _ (.tail _ (.tail _ (.tail _ (.tail _ (.head _)))))))))
        have hEl : Els encI Rl vo (ids s.L) := by rw [← hRl]; exact hS.els (.tail _ (.tail _ (.tail _ (.tail _ (.head _)))))
        have hDm : ∀ h ∈ s.L.filter (due t wt), h ∈ s.L := fun h hh => (List.mem_filter.1 hh).1
        have hDl : (s.L.filter (due t wt)).length ≤ 256 := Nat.le_trans (List.length_filter_le _ _) hlen
        refine wp_range (L := [_, _, _]) (R := Rl) hf hT rfl (by kernel_rfl) (due_iter c1 c2 c3 b { s with time := t } vo t wt ht1 hw1 hr1 hr2 hr3 hBm hEl hI.nd) (fun u hu => dvals_len u hu) rfl
          (fun i L' => ∃ q X, Sl encI 2 q (bfold n ((s.L.filter (due t wt)).take i)).2 X ∧ L' = [pt b2 (.cells #[.int .i64 (bfold n ((s.L.filter (due t wt)).take i)).1] 2), pt b3 (.cells #[q] 37), X])
          (fun c L' => False)
          (fun i => [(11, .int .i64 (((s.L.filter (due t wt)).map (·.r.id)).getD i 0)), (4, .pointer (some ⟨b1, 0, none⟩)), (5, .pointer (some ⟨b2, 0, none⟩)), (10, .pointer (some ⟨b3, 0, none⟩)), (2, .int .i64 t)]) ⟨_, _, sl_nil, rfl⟩ ?_ ?_ ?_ ?_
        · intro lo i u hu w a L R hf hT
          obtain ⟨hi, rfl⟩ := dvals_inv hu
          replace hf : Fr _ [(40, _), (4, _), (5, _), (10, _), (2, _)] _ _ := hf.sel [40, 4, 5, 10, 2] rfl
          -- region 8 (buffer.go:160)
          refine wp_reg (L) ([] ++ _) [(0, true)] mixed (by kernel_rfl) (hT) ?_; intro w hT
          refine rd hf rfl (yl_assign rfl) rfl rfl ?_; intro a hf
          refine plan_nil ?_
          exact ⟨(hf.sel [11, 4, 5, 10, 2] (by simp only [sel, lk, Nat.beq, cond]; rw [List.getD_eq_getElem?_getD, List.getElem?_map, List.getElem?_eq_getElem hi]; rfl)), hT⟩
        · intro lo i u hu Rx w a L hJ hf hT
          obtain ⟨q, XQ, hQ, rfl⟩ := hJ
          obtain ⟨hi, -⟩ := dvals_inv hu
          have hsuc := bfold_succ (n := n) hi
          have hrg := bfold_rng n hn1.1 ((s.L.filter (due t wt)).take i) (fun h hh => hI.ok h (hDm h (List.mem_of_mem_take hh)))
          have hol := bfold_len n ((s.L.filter (due t wt)).take i)
          have htl : ((s.L.filter (due t wt)).take i).length ≤ 256 := by rw [List.length_take]; omega
          have hid : ((s.L.filter (due t wt)).map (·.r.id)).getD i 0 = (s.L.filter (due t wt))[i].r.id := by rw [List.getD_eq_getElem?_getD, List.getElem?_map, List.getElem?_eq_getElem hi]; rfl
          rw [hid] at hf
          have hxm := hDm _ (List.getElem_mem hi)
          have hh := fnd_of_mem hI.nd hxm
          have hbx := bytes_rng (hI.ok _ hxm)
          generalize (s.L.filter (due t wt))[i] = x at hf hh hbx hsuc
          have hrb' : RowIn (Rx ++ Rl) b1 0 [.pointer (some ⟨b, 0, none⟩)] := rowIn_app hrb
          replace hf : Fr _ [(11, _), (4, _), (5, _), (10, _), (2, _)] _ _ := hf
          refine wpIn_block ?_
          refine wpIn_seq ?_
          -- region 9 (buffer.go:161)
          refine wp_reg ([]) ([_, _, _] ++ (Rx ++ Rl)) [(0, true), (1, true), (2, false), (3, true)] mixed (by kernel_rfl) (hT) ?_; intro w hT
          refine rd hf rfl (yl_load Try.underlying25 rfl rfl (hrb' 0 _ rfl).app) rfl rfl ?_; intro a hf
          refine rd hf rfl (yl_move rfl) rfl rfl ?_; intro a hf
          refine ef_call hf rfl (wanted_none _ _ rfl) rfl rfl (by kernel_rfl) (Spec.frame (L2 := []) (bytes_spec b { s with time := t } vo hBm.app.app x.r.id x hh hT)) rfl (l' := [(42, _), (41, _), (11, _), (4, _), (5, _), (10, _), (2, _)]) rfl ?_; rintro a w v L ⟨L1, ⟨rfl, rfl⟩, rfl⟩ hf hT
          refine rd hf rfl (yl_assign rfl) rfl rfl ?_; intro a hf
          refine plan_nil ?_
          replace hf := hf.sel [12, 11, 4, 5, 10, 2] (l' := [(12, _), (11, _), (4, _), (5, _), (10, _), (2, _)]) rfl
          refine wpIn_seq ?_
          -- region 10 (buffer.go:161)
          refine wp_reg ([]) ([_, _, _] ++ (Rx ++ Rl)) [(0, true), (1, true), (2, true)] mixed (by kernel_rfl) (hT) ?_; intro w hT
          refine rd hf rfl (yl_move rfl) rfl rfl ?_; intro a hf
          refine rd hf rfl (yl_load Try.underlying2 rfl rfl ⟨_, .head _, _, _, _, pt_self _ _, rfl⟩) rfl rfl ?_; intro a hf
          refine rd hf rfl (yl_cmp rfl rfl rfl) rfl rfl ?_; intro a hf
          refine plan_nil ?_
          refine wp_ifd hf rfl (fun hle => ?_) (fun hle => ?_)
          · -- then
            refine wpIn_seq ?_
            -- region 11 (buffer.go:162)
            refine wp_reg ([]) ([_, _, _] ++ (Rx ++ Rl)) [(0, true), (1, true), (2, true), (3, false)] mixed (by kernel_rfl) (hT) ?_; intro w hT
            refine rd hf rfl (yl_load Try.underlying2 rfl rfl ⟨_, .head _, _, _, _, pt_self _ _, rfl⟩) rfl rfl ?_; intro a hf
            refine rd hf rfl (yl_move rfl) rfl rfl ?_; intro a hf
            refine rd hf rfl (yl_sub rfl rfl (by unfold inI64; omega)) rfl rfl ?_; intro a hf
            replace hT : Tot _ _ ([_] ++ ([_, _] ++ (Rx ++ Rl))) := hT.bring 0
            refine efS_last hf hT rfl rfl (by kernel_rfl) (ef_store rfl rfl sz_2 rfl rfl) ?_; rintro w L rfl hT
            replace hf := hf.sel [11, 4, 5, 10, 2] (l' := [(11, _), (4, _), (5, _), (10, _), (2, _)]) rfl
            -- region 12 (buffer.go:163)
            refine wp_reg ([_]) ([_, _] ++ (Rx ++ Rl)) [(0, true), (1, true), (2, false), (3, false), (4, false)] mixed (by kernel_rfl) (hT.brings [2]) ?_; intro w hT
            refine rd hf rfl (yl_load Try.underlying37 rfl rfl ⟨_, .tail _ (.head _), _, _, _, pt_self _ _, rfl⟩) rfl rfl ?_; intro a hf
            refine rd hf rfl (yl_move rfl) rfl rfl ?_; intro a hf
            refine ef hf hT rfl rfl (ef_buildSlice (E := encI) (xs := [x.r.id]) rfl rfl Try.underlying37 zs_2 rfl (by decide) rfl (by decide)) rfl (l' := [(51, _), (50, _), (11, _), (4, _), (5, _), (10, _), (2, _)]) rfl ?_; rintro a w one L ⟨b4, p1, hvp1, hp1, rfl⟩ hf hT
            replace hT : Tot _ _ ([_, _] ++ ([_, _] ++ (Rx ++ Rl))) := hT.bring 1
            refine ef hf hT rfl rfl (ef_append (E := encI) (L := [_]) rfl rfl Try.underlying37 zb_2 rfl hQ (hp1.els (.tail _ (.head _))) (by simp; omega) (by simp [maxLen]; omega)) rfl (l' := [(52, _), (51, _), (50, _), (11, _), (4, _), (5, _), (10, _), (2, _)]) rfl ?_; rintro a w q2 L ⟨X1, hS1, rfl⟩ hf hT
            obtain ⟨A2, c0, hv2, hc0⟩ := hS1.shape
            replace hT : Tot _ _ ([_, _, _] ++ ([_] ++ (Rx ++ Rl))) := hT.bring 3
            refine efS_last hf hT rfl rfl (by kernel_rfl) (ef_store rfl rfl sz_37 (by rw [show (53, q2).2 = q2 from rfl, hv2]; rfl) rfl) ?_; rintro w L rfl hT
            replace hf := hf.sel [4, 5, 10, 2] (l' := [(4, _), (5, _), (10, _), (2, _)]) rfl
            refine inBlock_norm ?_
            refine rq_normal (L := [_, _, _]) ?_ (((hT.brings [2]).tail.brings [1, 1, 2]))
            show ∃ q X, _ ∧ _
            rw [hsuc]; simp only [bstep, if_pos hle]; exact ⟨_, _, hS1, rfl⟩
          · -- else
            refine wpIn_skip ?_
            refine inBlock_norm ?_
            refine rq_normal (L := [_, _, _]) ?_ (hT)
            show ∃ q X, _ ∧ _
            rw [hsuc]; simp only [bstep, if_neg hle]; exact ⟨_, _, hQ, rfl⟩
        · intro dD w a L hJ hf hT
          obtain ⟨q, XQ, hQ, rfl⟩ := hJ
          rw [show (dvals t wt s.L).length = (s.L.filter (due t wt)).length by simp [dvals], List.take_length] at hQ hT
          rw [← hRl] at hT
          have hol := bfold_len n (s.L.filter (due t wt))
          have hom := bfold_mem n (s.L.filter (due t wt))
          generalize hout : (bfold n (s.L.filter (due t wt))).2 = out at hQ hol hom
          replace hf := hf.sel [4, 10, 2] (l' := [(4, _), (10, _), (2, _)]) rfl
          refine wpIn_seq ?_
          refine wpIn_seq ?_
          -- region 13 (buffer.go:166)
          refine wp_reg ([]) ([_, _, _, _, _, _, _, _, _, _, _, _, _] ++ rs) [(0, true), (1, true), (2, true)] mixed (by kernel_rfl) (hT) ?_; intro w hT
          refine rd hf rfl (yl_load Try.underlying37 rfl rfl ⟨_, .tail _ (.tail _ (.head _)), _, _, _, pt_self _ _, rfl⟩) rfl rfl ?_; intro a hf
          refine rd hf rfl (yl_lenE rfl Try.underlying37 (hQ.els (.tail _ (.tail _ (.tail _ (.head _)))))) rfl rfl ?_; intro a hf
          refine rd hf rfl (yl_move rfl) rfl rfl ?_; intro a hf
          refine plan_nil ?_
          refine wpIn_block ?_
          replace hT := hT.bring 12
          refine wp_loopS (σ := Nat × List (Int × Int)) (fun (k, mt') => [(56, .int .i64 (k : Nat))]) [(55, _), (54, _), (4, _), (10, _), (2, _)] (fun (k, mt') L => k ≤ out.length ∧ Maps (setSent s.L (out.take k) t) mr ms mt' ∧ ∃ XT, MapL ik ik bt mt' XT ∧ L = [XT]) (fun (k, mt') => out.length - k) (0, mt) (L := [_]) (R := [_, _, _, _, _, _, _, _, _, _, _, _] ++ rs) (hf.sel [56, 55, 54, 4, 10, 2] rfl) (⟨Nat.zero_le _, by rw [List.take_zero, setSent_nil]; exact hM, _, hMt, rfl⟩) hT ?_
          clear hf hT; rintro ⟨k, mt'⟩ a w L hf ⟨hk, hMk, XT, hMt2, rfl⟩ hT
          replace hf : Fr _ [(56, .int .i64 (k : Nat)), (55, _), (54, _), (4, _), (10, _), (2, _)] _ _ := hf
          refine wpIn_seq ?_
          -- region 14 (buffer.go:166)
          refine wp_reg ([]) ([_, _, _, _, _, _, _, _, _, _, _, _, _] ++ rs) [(0, true)] mixed (by kernel_rfl) (hT) ?_; intro w hT
          refine rd hf rfl (yl_cmp rfl rfl rfl) rfl rfl ?_; intro a hf
          refine plan_nil ?_
          refine wpIn_seq ?_
          refine wp_ifd hf rfl (fun hlt => ?_) (fun hlt => ?_)
          · -- then
            have hltk : k < out.length := by omega
            have hj : out[k]? = some out[k] := List.getElem?_eq_getElem hltk
            have hkm : out[k] ∈ ids s.L := by have := hom _ (List.getElem_mem hltk); obtain ⟨h, hh, he⟩ := List.mem_map.1 this; exact List.mem_map.2 ⟨h, hDm h hh, he⟩
            refine wpIn_skip ?_
            refine wpIn_seq ?_
            refine wpIn_block ?_
            refine wpIn_seq ?_
            -- region 15 (buffer.go:166)
            refine wp_reg ([]) ([_, _, _, _, _, _, _, _, _, _, _, _, _] ++ rs) [(0, true), (1, true), (2, true)] mixed (by kernel_rfl) (hT) ?_; intro w hT
            refine rd hf rfl (yl_indexE rfl rfl Try.underlying37 sz_2 (hQ.els (.tail _ (.tail _ (.tail _ (.tail _ (.head _)))))) (by omega) (by omega)) rfl rfl ?_; intro a hf
            refine rd hf rfl (yl_load Try.underlying2 rfl rfl ((hQ.els (.tail _ (.tail _ (.tail _ (.tail _ (.head _)))))).cell hj (f := 0) rfl)) rfl rfl ?_; intro a hf
            refine rd hf rfl (yl_assign rfl) rfl rfl ?_; intro a hf
            refine plan_nil ?_
            replace hf := hf.sel [14, 56, 55, 54, 4, 10, 2] (l' := [(14, _), (56, _), (55, _), (54, _), (4, _), (10, _), (2, _)]) rfl
            -- region 16 (buffer.go:167)
            refine wp_reg ([]) ([_, _, _, _, _, _, _, _, _, _, _, _, _] ++ rs) [(0, true), (1, true), (2, true), (3, true), (4, true), (5, true), (6, false)] mixed (by kernel_rfl) (hT) ?_; intro w hT
            refine rd hf rfl (yl_load Try.underlying25 rfl rfl ⟨_, .tail _ (.tail _ (.tail _ (.tail _ (.tail _ (.tail _ (.tail _ (.tail _ (.head _)))))))), _, _, _, pt_self _ _, rfl⟩) rfl rfl ?_; intro a hf
            refine rd hf rfl (yl_nil rfl) rfl rfl ?_; intro a hf
            refine rd hf rfl (yl_faddr Try.underlying106 rfl rfl sz_104 (k := 6) rfl) rfl rfl ?_; intro a hf
            refine rd hf rfl (yl_load Try.underlying104 rfl rfl ⟨_, .tail _ (.tail _ (.tail _ (.tail _ (.tail _ (.tail _ (.tail _ (.tail _ (.tail _ (.tail _ (.head _)))))))))), _, _, _, pt_self _ _, rfl⟩) rfl rfl ?_; intro a hf
            refine rd hf rfl (yl_move rfl) rfl rfl ?_; intro a hf
            refine rd hf rfl (yl_move rfl) rfl rfl ?_; intro a hf
            replace hT : Tot _ _ ([_] ++ ([_, _, _, _, _, _, _, _, _, _, _, _] ++ rs)) := hT.bring 0
            refine efS_last hf hT rfl rfl (by kernel_rfl) (ef_mapUpdate kI Try.underlying104 rfl rfl rfl hMt2) ?_; rintro w L ⟨M1, hM1, rfl⟩ hT
            replace hf := hf.sel [56, 55, 54, 4, 10, 2] (l' := [(56, _), (55, _), (54, _), (4, _), (10, _), (2, _)]) rfl
            -- region 17 (buffer.go:166)
            refine wp_reg ([]) ([_, _, _, _, _, _, _, _, _, _, _, _, _] ++ rs) [(0, true), (1, true)] mixed (by kernel_rfl) (hT) ?_; intro w hT
            refine rd hf rfl (yl_add rfl rfl (by unfold inI64; omega)) rfl rfl ?_; intro a hf
            refine rw_ hf rfl (yl_move rfl) rfl (l' := [(56, _), (66, _), (55, _), (54, _), (4, _), (10, _), (2, _)]) rfl ?_; intro a hf
            refine plan_nil ?_
            exact ⟨(k + 1, _), _, hf.sel [56, 55, 54, 4, 10, 2] rfl, ⟨by omega, by rw [List.take_succ_eq_append_getElem hltk, ← setSent_snoc]; exact hMk.sent (by rw [ids_setSent]; exact hkm) (by omega), _, hM1, rfl⟩, hT, by first | omega | (dsimp only; omega)⟩
          · -- else
            obtain rfl : k = out.length := by omega
            rw [List.take_length] at hMk
            refine wpIn_exit ?_
            refine then_exit ?_
            refine then_exit ?_
            refine inBlock_hit ?_
            refine wpIn_seq ?_
            -- region 18 (buffer.go:169)
            refine wp_reg ([]) ([_, _, _, _, _, _, _, _, _, _, _, _, _] ++ rs) [(0, true), (1, true), (2, true)] mixed (by kernel_rfl) (hT) ?_; intro w hT
            refine rd hf rfl (yl_load Try.underlying37 rfl rfl ⟨_, .tail _ (.tail _ (.tail _ (.head _))), _, _, _, pt_self _ _, rfl⟩) rfl rfl ?_; intro a hf
            refine rd hf rfl (yl_assign rfl) rfl rfl ?_; intro a hf
            refine rd hf rfl (yl_assign rfl) rfl rfl ?_; intro a hf
            refine plan_nil ?_
            replace hf := hf.sel [9, 8] (l' := [(9, _), (8, _)]) rfl
            refine wpIn_ret ?_
            replace hT := (hT.brings [0, 12, 12, 12, 12, 8, 12, 12, 12, 12, 12, 12, 12])
            refine body_retG (L := [_, _, _, _, _, _]) [_, _, _, _, _, _] [dD] hf hT rfl (vs := [q, .int .i64 0]) ⟨rfl, rfl, trivial⟩ ?_
            rw [if_neg hgood]
            refine ⟨q, XQ, _, rfl, by first | exact hQ | (rw [hout]; exact hQ), ⟨vo, _, _, rfl, ?_, br, _, bs, _, bt, _, _, _, _, rfl, hMr, hMs, hMt2, ?_⟩, rfl⟩
            · show Sl _ _ _ (ids (setSent _ _ _)) _; rw [ids_setSent]; exact hS
            · show Maps (setSent _ _ _) _ _ _; first | exact hMk | (rw [hout]; exact hMk)
        · intro dD c w a L hX; exact hX.elim
end Go.Proofs.Ytjhbgciocffihaa
