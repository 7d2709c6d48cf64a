-- written by gen.py out of walks texts of my own
import Derived.Test.YtjhbgciocffihaaKT
import Derived.Test.YtjhbgciocffihaaB0
set_option linter.unusedVariables false
set_option linter.unusedSimpArgs false
set_option maxHeartbeats 4000000
namespace Go.Proofs.Ytjhbgciocffihaa
theorem outside_spec {e : Env} {w : World} {rs : List Part} (x lo hi : Int) (hT : Tot e w rs) : Spec Try.prog 45 #[.int .i64 x, .int .i64 lo, .int .i64 hi] e w rs (fun v L => v = .bool (decide (x < lo ∨ hi < x)) ∧ L = []) := by
  refine spec_body Try.func45 rfl Try.ntmps45 rfl rfl ?_
  intro a hf
  refine wpIn_seq ?_
  -- region 0 (buffer.go:15)
  refine wp_reg ([]) ([] ++ rs) [(0, true)] mixed (by kernel_rfl) (hT) ?_; intro w hT
  refine rd hf rfl (yl_assign rfl) rfl rfl ?_; intro a hf
  refine plan_nil ?_
  refine wpIn_seq ?_
  -- region 1 (buffer.go:15)
  refine wp_reg ([]) ([] ++ rs) [(0, true), (1, true), (2, true), (3, true), (4, true), (5, true), (6, true), (7, true), (8, true)] mixed (by kernel_rfl) (hT) ?_; intro w hT
  refine rd hf rfl (yl_move rfl) rfl rfl ?_; intro a hf
  refine rd hf rfl (yl_move rfl) rfl rfl ?_; intro a hf
  refine rd hf rfl (yl_cmp rfl rfl rfl) rfl rfl ?_; intro a hf
  refine rd hf rfl (yl_move rfl) rfl rfl ?_; intro a hf
  by_cases hg3 : x < lo
  · have hgT1 : decide (x < lo) = true := by simpa using hg3
    refine rdF hf rfl rfl rfl rfl (by first | exact hgT1 | simp [hgT1]) rfl (l' := [(11, _), (10, _), (9, _), (8, _), (7, _), (6, _), (0, _), (1, _), (2, _)]) rfl ?_; intro a hf
    refine rdF hf rfl rfl rfl rfl (by first | exact hgT1 | simp [hgT1]) rfl (l' := [(12, _), (11, _), (10, _), (9, _), (8, _), (7, _), (6, _), (0, _), (1, _), (2, _)]) rfl ?_; intro a hf
    refine rdF hf rfl rfl rfl rfl (by first | exact hgT1 | simp [hgT1]) rfl (l' := [(13, _), (12, _), (11, _), (10, _), (9, _), (8, _), (7, _), (6, _), (0, _), (1, _), (2, _)]) rfl ?_; intro a hf
    refine rd hf rfl (yl_pickTT rfl hgT1 rfl) rfl rfl ?_; intro a hf
    refine rw_ hf rfl (yl_assign rfl) rfl (l' := [(6, _), (14, _), (13, _), (12, _), (11, _), (10, _), (9, _), (8, _), (7, _), (0, _), (1, _), (2, _)]) rfl ?_; intro a hf
    refine plan_nil ?_
    replace hf := hf.sel [6] (l' := [(6, _)]) rfl
    refine wpIn_ret ?_
    exact body_ret hf (L := []) hT rfl rfl ⟨by simp [retv, *], rfl⟩
  · have hgT1 : decide (x < lo) = false := by simpa using hg3
    refine rdT hf rfl rfl rfl rfl (by first | exact hgT1 | simp [hgT1]) (yl_move rfl) rfl (l' := [(11, _), (10, _), (9, _), (8, _), (7, _), (6, _), (0, _), (1, _), (2, _)]) rfl ?_; intro a hf
    refine rdT hf rfl rfl rfl rfl (by first | exact hgT1 | simp [hgT1]) (yl_move rfl) rfl (l' := [(12, _), (11, _), (10, _), (9, _), (8, _), (7, _), (6, _), (0, _), (1, _), (2, _)]) rfl ?_; intro a hf
    refine rdT hf rfl rfl rfl rfl (by first | exact hgT1 | simp [hgT1]) (yl_cmp rfl rfl rfl) rfl (l' := [(13, _), (12, _), (11, _), (10, _), (9, _), (8, _), (7, _), (6, _), (0, _), (1, _), (2, _)]) rfl ?_; intro a hf
    refine rd hf rfl (yl_pickFF rfl hgT1 rfl) rfl rfl ?_; intro a hf
    refine rw_ hf rfl (yl_assign rfl) rfl (l' := [(6, _), (14, _), (13, _), (12, _), (11, _), (10, _), (9, _), (8, _), (7, _), (0, _), (1, _), (2, _)]) rfl ?_; intro a hf
    refine plan_nil ?_
    replace hf := hf.sel [6] (l' := [(6, _)]) rfl
    refine wpIn_ret ?_
    exact body_ret hf (L := []) hT rfl rfl ⟨by simp [retv, *], rfl⟩
theorem isNaN_int64 {e : Env} {w : World} {rs : List Part} (x : Int) (hT : Tot e w rs) : Spec Try.prog 106 #[.int .i64 x] e w rs (fun v L => v = .bool false ∧ L = []) := by
  refine spec_body Try.func106 rfl Try.ntmps106 rfl rfl ?_
  intro a hf
  refine wpIn_seq ?_
  -- region 0 (cmp.go:63)
  refine wp_reg ([]) ([] ++ rs) [(0, true)] mixed (by kernel_rfl) (hT) ?_; intro w hT
  refine rd hf rfl (yl_assign rfl) rfl rfl ?_; intro a hf
  refine plan_nil ?_
  refine wpIn_seq ?_
  -- region 1 (cmp.go:64)
  refine wp_reg ([]) ([] ++ rs) [(0, true), (1, true), (2, true), (3, true)] mixed (by kernel_rfl) (hT) ?_; intro w hT
  refine rd hf rfl (yl_move rfl) rfl rfl ?_; intro a hf
  refine rd hf rfl (yl_move rfl) rfl rfl ?_; intro a hf
  refine rd hf rfl (yl_cmp rfl rfl rfl) rfl rfl ?_; intro a hf
  refine rw_ hf rfl (yl_assign rfl) rfl (l' := [(2, _), (5, _), (4, _), (3, _), (0, _)]) rfl ?_; intro a hf
  refine plan_nil ?_
  replace hf := hf.sel [2] (l' := [(2, _)]) rfl
  refine wpIn_ret ?_
  exact body_ret hf (L := []) hT rfl rfl ⟨by simp [retv], rfl⟩
theorem compare_int64 {e : Env} {w : World} {rs : List Part} (x y : Int) (hT : Tot e w rs) : Spec Try.prog 78 #[.int .i64 x, .int .i64 y] e w rs (fun v L => v = .int .i64 (sgn x y) ∧ L = []) := by
  refine spec_body Try.func78 rfl Try.ntmps78 rfl rfl ?_
  intro a hf
  refine wpIn_seq ?_
  -- region 0 (cmp.go:40)
  refine wp_reg ([]) ([] ++ rs) [(0, true)] mixed (by kernel_rfl) (hT) ?_; intro w hT
  refine rd hf rfl (yl_assign rfl) rfl rfl ?_; intro a hf
  refine plan_nil ?_
  refine wpIn_seq ?_
  -- region 1 (cmp.go:41)
  refine wp_reg ([]) ([] ++ rs) [(0, true), (1, false), (2, true)] mixed (by kernel_rfl) (hT) ?_; intro w hT
  refine rd hf rfl (yl_move rfl) rfl rfl ?_; intro a hf
  refine ef_call hf rfl (wanted_none _ _ rfl) rfl rfl (by kernel_rfl) (Spec.frame (L2 := []) (isNaN_int64 _ hT)) rfl (l' := [(7, _), (4, _), (0, _), (1, _)]) rfl ?_; rintro a w v L ⟨L1, ⟨rfl, rfl⟩, rfl⟩ hf hT
  refine rd hf rfl (yl_assign rfl) rfl rfl ?_; intro a hf
  refine plan_nil ?_
  replace hf := hf.sel [5, 0, 1] (l' := [(5, _), (0, _), (1, _)]) rfl
  refine wpIn_seq ?_
  -- region 2 (cmp.go:42)
  refine wp_reg ([]) ([] ++ rs) [(0, true), (1, false), (2, true)] mixed (by kernel_rfl) (hT) ?_; intro w hT
  refine rd hf rfl (yl_move rfl) rfl rfl ?_; intro a hf
  refine ef_call hf rfl (wanted_none _ _ rfl) rfl rfl (by kernel_rfl) (Spec.frame (L2 := []) (isNaN_int64 _ hT)) rfl (l' := [(9, _), (5, _), (0, _), (1, _)]) rfl ?_; rintro a w v L ⟨L1, ⟨rfl, rfl⟩, rfl⟩ hf hT
  refine rd hf rfl (yl_assign rfl) rfl rfl ?_; intro a hf
  refine plan_nil ?_
  refine wpIn_seq ?_
  refine wpIn_seq ?_
  -- region 3 (cmp.go:43)
  refine wp_reg ([]) ([] ++ rs) [(0, true)] mixed (by kernel_rfl) (hT) ?_; intro w hT
  refine rd hf rfl (yl_move rfl) rfl rfl ?_; intro a hf
  refine plan_nil ?_
  replace hf := hf.sel [11, 6, 0, 1] (l' := [(11, _), (6, _), (0, _), (1, _)]) rfl
  refine wp_ifFF hf rfl (rfl) ?_
  refine wpIn_skip ?_
  refine wpIn_seq ?_
  refine wpIn_seq ?_
  -- region 7 (cmp.go:49)
  refine wp_reg ([]) ([] ++ rs) [(0, true)] mixed (by kernel_rfl) (hT) ?_; intro w hT
  refine rd hf rfl (yl_move rfl) rfl rfl ?_; intro a hf
  refine plan_nil ?_
  refine wp_ifFF hf rfl (rfl) ?_
  refine wpIn_skip ?_
  refine wpIn_seq ?_
  refine wpIn_seq ?_
  -- region 9 (cmp.go:52)
  refine wp_reg ([]) ([] ++ rs) [(0, true), (1, true), (2, true)] mixed (by kernel_rfl) (hT) ?_; intro w hT
  refine rd hf rfl (yl_move rfl) rfl rfl ?_; intro a hf
  refine rd hf rfl (yl_move rfl) rfl rfl ?_; intro a hf
  refine rd hf rfl (yl_cmp rfl rfl rfl) rfl rfl ?_; intro a hf
  refine plan_nil ?_
  replace hf := hf.sel [16, 0, 1] (l' := [(16, _), (0, _), (1, _)]) rfl
  refine wp_ifd hf rfl (fun h1 => ?_) (fun h1 => ?_)
  · -- then
    refine wpIn_seq ?_
    -- region 10 (cmp.go:53)
    refine wp_reg ([]) ([] ++ rs) [(0, true)] mixed (by kernel_rfl) (hT) ?_; intro w hT
    refine rd hf rfl (yl_assign rfl) rfl rfl ?_; intro a hf
    refine plan_nil ?_
    replace hf := hf.sel [4] (l' := [(4, _)]) rfl
    refine wpIn_ret ?_
    exact body_ret hf (L := []) hT rfl rfl ⟨by simp [retv, sgn, *], rfl⟩
  · -- else
    refine wpIn_skip ?_
    refine wpIn_seq ?_
    refine wpIn_seq ?_
    -- region 11 (cmp.go:55)
    refine wp_reg ([]) ([] ++ rs) [(0, true), (1, true), (2, true)] mixed (by kernel_rfl) (hT) ?_; intro w hT
    refine rd hf rfl (yl_move rfl) rfl rfl ?_; intro a hf
    refine rd hf rfl (yl_move rfl) rfl rfl ?_; intro a hf
    refine rd hf rfl (yl_cmp rfl rfl rfl) rfl rfl ?_; intro a hf
    refine plan_nil ?_
    replace hf := hf.sel [19] (l' := [(19, _)]) rfl
    refine wp_ifd hf rfl (fun h2 => ?_) (fun h2 => ?_)
    · -- then
      refine wpIn_seq ?_
      -- region 12 (cmp.go:56)
      refine wp_reg ([]) ([] ++ rs) [(0, true)] mixed (by kernel_rfl) (hT) ?_; intro w hT
      refine rd hf rfl (yl_assign rfl) rfl rfl ?_; intro a hf
      refine plan_nil ?_
      refine wpIn_ret ?_
      exact body_ret hf (L := []) hT rfl rfl ⟨by simp [retv, sgn, *], rfl⟩
    · -- else
      refine wpIn_skip ?_
      refine wpIn_seq ?_
      -- region 13 (cmp.go:58)
      refine wp_reg ([]) ([] ++ rs) [(0, true)] mixed (by kernel_rfl) (hT) ?_; intro w hT
      refine rd hf rfl (yl_assign rfl) rfl rfl ?_; intro a hf
      refine plan_nil ?_
      refine wpIn_ret ?_
      exact body_ret hf (L := []) hT rfl rfl ⟨by simp [retv, sgn, *], rfl⟩
theorem isNaN_int {e : Env} {w : World} {rs : List Part} (x : Int) (hT : Tot e w rs) : Spec Try.prog 109 #[.int .i64 x] e w rs (fun v L => v = .bool false ∧ L = []) := by
  refine spec_body Try.func109 rfl Try.ntmps109 rfl rfl ?_
  intro a hf
  refine wpIn_seq ?_
  -- region 0 (cmp.go:63)
  refine wp_reg ([]) ([] ++ rs) [(0, true)] mixed (by kernel_rfl) (hT) ?_; intro w hT
  refine rd hf rfl (yl_assign rfl) rfl rfl ?_; intro a hf
  refine plan_nil ?_
  refine wpIn_seq ?_
  -- region 1 (cmp.go:64)
  refine wp_reg ([]) ([] ++ rs) [(0, true), (1, true), (2, true), (3, true)] mixed (by kernel_rfl) (hT) ?_; intro w hT
  refine rd hf rfl (yl_move rfl) rfl rfl ?_; intro a hf
  refine rd hf rfl (yl_move rfl) rfl rfl ?_; intro a hf
  refine rd hf rfl (yl_cmp rfl rfl rfl) rfl rfl ?_; intro a hf
  refine rw_ hf rfl (yl_assign rfl) rfl (l' := [(2, _), (5, _), (4, _), (3, _), (0, _)]) rfl ?_; intro a hf
  refine plan_nil ?_
  replace hf := hf.sel [2] (l' := [(2, _)]) rfl
  refine wpIn_ret ?_
  exact body_ret hf (L := []) hT rfl rfl ⟨by simp [retv], rfl⟩
theorem compare_int {e : Env} {w : World} {rs : List Part} (x y : Int) (hT : Tot e w rs) : Spec Try.prog 88 #[.int .i64 x, .int .i64 y] e w rs (fun v L => v = .int .i64 (sgn x y) ∧ L = []) := by
  refine spec_body Try.func88 rfl Try.ntmps88 rfl rfl ?_
  intro a hf
  refine wpIn_seq ?_
  -- region 0 (cmp.go:40)
  refine wp_reg ([]) ([] ++ rs) [(0, true)] mixed (by kernel_rfl) (hT) ?_; intro w hT
  refine rd hf rfl (yl_assign rfl) rfl rfl ?_; intro a hf
  refine plan_nil ?_
  refine wpIn_seq ?_
  -- region 1 (cmp.go:41)
  refine wp_reg ([]) ([] ++ rs) [(0, true), (1, false), (2, true)] mixed (by kernel_rfl) (hT) ?_; intro w hT
  refine rd hf rfl (yl_move rfl) rfl rfl ?_; intro a hf
  refine ef_call hf rfl (wanted_none _ _ rfl) rfl rfl (by kernel_rfl) (Spec.frame (L2 := []) (isNaN_int _ hT)) rfl (l' := [(7, _), (4, _), (0, _), (1, _)]) rfl ?_; rintro a w v L ⟨L1, ⟨rfl, rfl⟩, rfl⟩ hf hT
  refine rd hf rfl (yl_assign rfl) rfl rfl ?_; intro a hf
  refine plan_nil ?_
  replace hf := hf.sel [5, 0, 1] (l' := [(5, _), (0, _), (1, _)]) rfl
  refine wpIn_seq ?_
  -- region 2 (cmp.go:42)
  refine wp_reg ([]) ([] ++ rs) [(0, true), (1, false), (2, true)] mixed (by kernel_rfl) (hT) ?_; intro w hT
  refine rd hf rfl (yl_move rfl) rfl rfl ?_; intro a hf
  refine ef_call hf rfl (wanted_none _ _ rfl) rfl rfl (by kernel_rfl) (Spec.frame (L2 := []) (isNaN_int _ hT)) rfl (l' := [(9, _), (5, _), (0, _), (1, _)]) rfl ?_; rintro a w v L ⟨L1, ⟨rfl, rfl⟩, rfl⟩ hf hT
  refine rd hf rfl (yl_assign rfl) rfl rfl ?_; intro a hf
  refine plan_nil ?_
  refine wpIn_seq ?_
  refine wpIn_seq ?_
  -- region 3 (cmp.go:43)
  refine wp_reg ([]) ([] ++ rs) [(0, true)] mixed (by kernel_rfl) (hT) ?_; intro w hT
  refine rd hf rfl (yl_move rfl) rfl rfl ?_; intro a hf
  refine plan_nil ?_
  replace hf := hf.sel [11, 6, 0, 1] (l' := [(11, _), (6, _), (0, _), (1, _)]) rfl
  refine wp_ifFF hf rfl (rfl) ?_
  refine wpIn_skip ?_
  refine wpIn_seq ?_
  refine wpIn_seq ?_
  -- region 7 (cmp.go:49)
  refine wp_reg ([]) ([] ++ rs) [(0, true)] mixed (by kernel_rfl) (hT) ?_; intro w hT
  refine rd hf rfl (yl_move rfl) rfl rfl ?_; intro a hf
  refine plan_nil ?_
  refine wp_ifFF hf rfl (rfl) ?_
  refine wpIn_skip ?_
  refine wpIn_seq ?_
  refine wpIn_seq ?_
  -- region 9 (cmp.go:52)
  refine wp_reg ([]) ([] ++ rs) [(0, true), (1, true), (2, true)] mixed (by kernel_rfl) (hT) ?_; intro w hT
  refine rd hf rfl (yl_move rfl) rfl rfl ?_; intro a hf
  refine rd hf rfl (yl_move rfl) rfl rfl ?_; intro a hf
  refine rd hf rfl (yl_cmp rfl rfl rfl) rfl rfl ?_; intro a hf
  refine plan_nil ?_
  replace hf := hf.sel [16, 0, 1] (l' := [(16, _), (0, _), (1, _)]) rfl
  refine wp_ifd hf rfl (fun h1 => ?_) (fun h1 => ?_)
  · -- then
    refine wpIn_seq ?_
    -- region 10 (cmp.go:53)
    refine wp_reg ([]) ([] ++ rs) [(0, true)] mixed (by kernel_rfl) (hT) ?_; intro w hT
    refine rd hf rfl (yl_assign rfl) rfl rfl ?_; intro a hf
    refine plan_nil ?_
    replace hf := hf.sel [4] (l' := [(4, _)]) rfl
    refine wpIn_ret ?_
    exact body_ret hf (L := []) hT rfl rfl ⟨by simp [retv, sgn, *], rfl⟩
  · -- else
    refine wpIn_skip ?_
    refine wpIn_seq ?_
    refine wpIn_seq ?_
    -- region 11 (cmp.go:55)
    refine wp_reg ([]) ([] ++ rs) [(0, true), (1, true), (2, true)] mixed (by kernel_rfl) (hT) ?_; intro w hT
    refine rd hf rfl (yl_move rfl) rfl rfl ?_; intro a hf
    refine rd hf rfl (yl_move rfl) rfl rfl ?_; intro a hf
    refine rd hf rfl (yl_cmp rfl rfl rfl) rfl rfl ?_; intro a hf
    refine plan_nil ?_
    replace hf := hf.sel [19] (l' := [(19, _)]) rfl
    refine wp_ifd hf rfl (fun h2 => ?_) (fun h2 => ?_)
    · -- then
      refine wpIn_seq ?_
      -- region 12 (cmp.go:56)
      refine wp_reg ([]) ([] ++ rs) [(0, true)] mixed (by kernel_rfl) (hT) ?_; intro w hT
      refine rd hf rfl (yl_assign rfl) rfl rfl ?_; intro a hf
      refine plan_nil ?_
      refine wpIn_ret ?_
      exact body_ret hf (L := []) hT rfl rfl ⟨by simp [retv, sgn, *], rfl⟩
    · -- else
      refine wpIn_skip ?_
      refine wpIn_seq ?_
      -- region 13 (cmp.go:58)
      refine wp_reg ([]) ([] ++ rs) [(0, true)] mixed (by kernel_rfl) (hT) ?_; intro w hT
      refine rd hf rfl (yl_assign rfl) rfl rfl ?_; intro a hf
      refine plan_nil ?_
      refine wpIn_ret ?_
      exact body_ret hf (L := []) hT rfl rfl ⟨by simp [retv, sgn, *], rfl⟩
theorem Check_spec {e : Env} {w : World} {rs : List Part} (r : Rec) (hT : Tot e w rs) : Spec Try.prog 47 #[encR r] e w rs (fun v L => v = .int .i64 (if r.Ok then 0 else 2) ∧ L = []) := by
  refine spec_body Try.func47 rfl Try.ntmps47 rfl rfl ?_
  intro a hf
  refine wpIn_seq ?_
  -- region 0 (buffer.go:18)
  refine wp_reg ([]) ([] ++ rs) [(0, false), (1, true)] mixed (by kernel_rfl) (hT) ?_; intro w hT
  refine ef hf hT rfl rfl (ef_box rfl) rfl (l' := [(0, _)]) rfl ?_; rintro a w v L ⟨b1, rfl, rfl⟩ hf hT
  refine rd hf rfl (yl_assign rfl) rfl rfl ?_; intro a hf
  refine plan_nil ?_
  refine wpIn_seq ?_
  refine wpIn_seq ?_
  -- region 1 (buffer.go:19)
  refine wp_reg ([]) ([_] ++ rs) [(0, true), (1, true), (2, false), (3, true), (4, true), (5, true), (6, false), (7, true), (8, true), (9, true), (10, true), (11, false), (12, true), (13, true), (14, true), (15, true), (16, false), (17, true), (18, true), (19, true), (20, true), (21, true), (22, true), (23, false), (24, true)] mixed (by kernel_rfl) (hT) ?_; intro w hT
  refine rd hf rfl (yl_faddr Try.underlying31 rfl rfl sz_2 (k := 0) rfl) rfl rfl ?_; intro a hf
  refine rd hf rfl (yl_load Try.underlying2 rfl rfl ⟨_, .head _, _, _, _, pt_self _ _, rfl⟩) rfl rfl ?_; intro a hf
  refine ef_call hf rfl (wanted_none _ _ rfl) rfl rfl (by kernel_rfl) (Spec.frame (L2 := []) (outside_spec _ _ _ hT)) rfl (l' := [(4, _), (3, _), (2, _), (1, _), (0, _)]) rfl ?_; rintro a w v L ⟨L1, ⟨rfl, rfl⟩, rfl⟩ hf hT
  refine rd hf rfl (yl_move rfl) rfl rfl ?_; intro a hf
  by_cases hg3 : r.id < 0 ∨ 1073741824 < r.id
  · have hgT1 : decide (r.id < 0 ∨ 1073741824 < r.id) = true := by simpa using hg3
    refine rdF hf rfl rfl rfl rfl (by first | exact hgT1 | simp [hgT1]) rfl (l' := [(7, _), (6, _), (5, _), (4, _), (3, _), (2, _), (1, _), (0, _)]) rfl ?_; intro a hf
    refine rdF hf rfl rfl rfl rfl (by first | exact hgT1 | simp [hgT1]) rfl (l' := [(8, _), (7, _), (6, _), (5, _), (4, _), (3, _), (2, _), (1, _), (0, _)]) rfl ?_; intro a hf
    refine efF hf rfl rfl rfl rfl (by first | exact hgT1 | simp [hgT1]) hT.allR (by simp [Nat.blt]) (l' := [(9, _), (8, _), (7, _), (6, _), (5, _), (4, _), (3, _), (2, _), (1, _), (0, _)]) rfl ?_; intro a hf
    refine rd hf rfl (yl_pickTT rfl hgT1 rfl) rfl rfl ?_; intro a hf
    refine rd hf rfl (yl_move rfl) rfl rfl ?_; intro a hf
    refine rdF hf rfl rfl rfl rfl (rfl) rfl (l' := [(12, _), (11, _), (10, _), (9, _), (8, _), (7, _), (6, _), (5, _), (4, _), (3, _), (2, _), (1, _), (0, _)]) rfl ?_; intro a hf
    refine rdF hf rfl rfl rfl rfl (rfl) rfl (l' := [(13, _), (12, _), (11, _), (10, _), (9, _), (8, _), (7, _), (6, _), (5, _), (4, _), (3, _), (2, _), (1, _), (0, _)]) rfl ?_; intro a hf
    refine efF hf rfl rfl rfl rfl (rfl) hT.allR (by simp [Nat.blt]) (l' := [(14, _), (13, _), (12, _), (11, _), (10, _), (9, _), (8, _), (7, _), (6, _), (5, _), (4, _), (3, _), (2, _), (1, _), (0, _)]) rfl ?_; intro a hf
    refine rd hf rfl (yl_pickTT rfl rfl rfl) rfl rfl ?_; intro a hf
    refine rd hf rfl (yl_move rfl) rfl rfl ?_; intro a hf
    refine rdF hf rfl rfl rfl rfl (rfl) rfl (l' := [(17, _), (16, _), (15, _), (14, _), (13, _), (12, _), (11, _), (10, _), (9, _), (8, _), (7, _), (6, _), (5, _), (4, _), (3, _), (2, _), (1, _), (0, _)]) rfl ?_; intro a hf
    refine rdF hf rfl rfl rfl rfl (rfl) rfl (l' := [(18, _), (17, _), (16, _), (15, _), (14, _), (13, _), (12, _), (11, _), (10, _), (9, _), (8, _), (7, _), (6, _), (5, _), (4, _), (3, _), (2, _), (1, _), (0, _)]) rfl ?_; intro a hf
    refine efF hf rfl rfl rfl rfl (rfl) hT.allR (by simp [Nat.blt]) (l' := [(19, _), (18, _), (17, _), (16, _), (15, _), (14, _), (13, _), (12, _), (11, _), (10, _), (9, _), (8, _), (7, _), (6, _), (5, _), (4, _), (3, _), (2, _), (1, _), (0, _)]) rfl ?_; intro a hf
    refine rd hf rfl (yl_pickTT rfl rfl rfl) rfl rfl ?_; intro a hf
    refine rd hf rfl (yl_move rfl) rfl rfl ?_; intro a hf
    refine rdF hf rfl rfl rfl rfl (rfl) rfl (l' := [(22, _), (21, _), (20, _), (19, _), (18, _), (17, _), (16, _), (15, _), (14, _), (13, _), (12, _), (11, _), (10, _), (9, _), (8, _), (7, _), (6, _), (5, _), (4, _), (3, _), (2, _), (1, _), (0, _)]) rfl ?_; intro a hf
    refine rdF hf rfl rfl rfl rfl (rfl) rfl (l' := [(23, _), (22, _), (21, _), (20, _), (19, _), (18, _), (17, _), (16, _), (15, _), (14, _), (13, _), (12, _), (11, _), (10, _), (9, _), (8, _), (7, _), (6, _), (5, _), (4, _), (3, _), (2, _), (1, _), (0, _)]) rfl ?_; intro a hf
    refine rdF hf rfl rfl rfl rfl (rfl) rfl (l' := [(24, _), (23, _), (22, _), (21, _), (20, _), (19, _), (18, _), (17, _), (16, _), (15, _), (14, _), (13, _), (12, _), (11, _), (10, _), (9, _), (8, _), (7, _), (6, _), (5, _), (4, _), (3, _), (2, _), (1, _), (0, _)]) rfl ?_; intro a hf
    refine rdF hf rfl rfl rfl rfl (rfl) rfl (l' := [(25, _), (24, _), (23, _), (22, _), (21, _), (20, _), (19, _), (18, _), (17, _), (16, _), (15, _), (14, _), (13, _), (12, _), (11, _), (10, _), (9, _), (8, _), (7, _), (6, _), (5, _), (4, _), (3, _), (2, _), (1, _), (0, _)]) rfl ?_; intro a hf
    refine efF hf rfl rfl rfl rfl (rfl) hT.allR (by simp [Nat.blt]) (l' := [(26, _), (25, _), (24, _), (23, _), (22, _), (21, _), (20, _), (19, _), (18, _), (17, _), (16, _), (15, _), (14, _), (13, _), (12, _), (11, _), (10, _), (9, _), (8, _), (7, _), (6, _), (5, _), (4, _), (3, _), (2, _), (1, _), (0, _)]) rfl ?_; intro a hf
    refine rd hf rfl (yl_pickTT rfl rfl rfl) rfl rfl ?_; intro a hf
    refine plan_nil ?_
    replace hf := hf.sel [27] (l' := [(27, _)]) rfl
    refine wp_ifTT hf rfl (rfl) ?_
    refine wpIn_seq ?_
    -- region 2 (buffer.go:20)
    refine wp_reg ([]) ([_] ++ rs) [(0, true)] mixed (by kernel_rfl) (hT) ?_; intro w hT
    refine rd hf rfl (yl_assign rfl) rfl rfl ?_; intro a hf
    refine plan_nil ?_
    refine wpIn_ret ?_
    have hok : ¬ r.Ok := by unfold Rec.Ok; omega
    exact body_ret hf (L := []) hT.tail rfl rfl ⟨by simp [retv, hok], rfl⟩
  · have hgT1 : decide (r.id < 0 ∨ 1073741824 < r.id) = false := by simpa using hg3
    refine rdT hf rfl rfl rfl rfl (by first | exact hgT1 | simp [hgT1]) (yl_faddr Try.underlying31 rfl rfl sz_3 (k := 1) rfl) rfl (l' := [(7, _), (6, _), (5, _), (4, _), (3, _), (2, _), (1, _), (0, _)]) rfl ?_; intro a hf
    refine rdT hf rfl rfl rfl rfl (by first | exact hgT1 | simp [hgT1]) (yl_load Try.underlying3 rfl rfl ⟨_, .head _, _, _, _, pt_self _ _, rfl⟩) rfl (l' := [(8, _), (7, _), (6, _), (5, _), (4, _), (3, _), (2, _), (1, _), (0, _)]) rfl ?_; intro a hf
    refine ef_call hf rfl (by rw [wanted_some hf rfl rfl rfl rfl]; first | exact beqT hgT1 | simp [hgT1]) rfl rfl (by kernel_rfl) (Spec.frame (L2 := []) (outside_spec _ _ _ hT)) rfl (l' := [(8, _), (7, _), (6, _), (5, _), (4, _), (3, _), (2, _), (1, _), (0, _)]) rfl ?_; rintro a w v L ⟨L1, ⟨rfl, rfl⟩, rfl⟩ hf hT
    refine rd hf rfl (yl_pickFF rfl hgT1 rfl) rfl rfl ?_; intro a hf
    refine rd hf rfl (yl_move rfl) rfl rfl ?_; intro a hf
    by_cases hg8 : r.cls < 0 ∨ 9 < r.cls
    · have hgT2 : decide (r.cls < 0 ∨ 9 < r.cls) = true := by simpa using hg8
      refine rdF hf rfl rfl rfl rfl (by first | exact hgT2 | simp [hgT2]) rfl (l' := [(12, _), (11, _), (10, _), (9, _), (8, _), (7, _), (6, _), (5, _), (4, _), (3, _), (2, _), (1, _), (0, _)]) rfl ?_; intro a hf
      refine rdF hf rfl rfl rfl rfl (by first | exact hgT2 | simp [hgT2]) rfl (l' := [(13, _), (12, _), (11, _), (10, _), (9, _), (8, _), (7, _), (6, _), (5, _), (4, _), (3, _), (2, _), (1, _), (0, _)]) rfl ?_; intro a hf
      refine efF hf rfl rfl rfl rfl (by first | exact hgT2 | simp [hgT2]) hT.allR (by simp [Nat.blt]) (l' := [(14, _), (13, _), (12, _), (11, _), (10, _), (9, _), (8, _), (7, _), (6, _), (5, _), (4, _), (3, _), (2, _), (1, _), (0, _)]) rfl ?_; intro a hf
      refine rd hf rfl (yl_pickTT rfl hgT2 rfl) rfl rfl ?_; intro a hf
      refine rd hf rfl (yl_move rfl) rfl rfl ?_; intro a hf
      refine rdF hf rfl rfl rfl rfl (rfl) rfl (l' := [(17, _), (16, _), (15, _), (14, _), (13, _), (12, _), (11, _), (10, _), (9, _), (8, _), (7, _), (6, _), (5, _), (4, _), (3, _), (2, _), (1, _), (0, _)]) rfl ?_; intro a hf
      refine rdF hf rfl rfl rfl rfl (rfl) rfl (l' := [(18, _), (17, _), (16, _), (15, _), (14, _), (13, _), (12, _), (11, _), (10, _), (9, _), (8, _), (7, _), (6, _), (5, _), (4, _), (3, _), (2, _), (1, _), (0, _)]) rfl ?_; intro a hf
      refine efF hf rfl rfl rfl rfl (rfl) hT.allR (by simp [Nat.blt]) (l' := [(19, _), (18, _), (17, _), (16, _), (15, _), (14, _), (13, _), (12, _), (11, _), (10, _), (9, _), (8, _), (7, _), (6, _), (5, _), (4, _), (3, _), (2, _), (1, _), (0, _)]) rfl ?_; intro a hf
      refine rd hf rfl (yl_pickTT rfl rfl rfl) rfl rfl ?_; intro a hf
      refine rd hf rfl (yl_move rfl) rfl rfl ?_; intro a hf
      refine rdF hf rfl rfl rfl rfl (rfl) rfl (l' := [(22, _), (21, _), (20, _), (19, _), (18, _), (17, _), (16, _), (15, _), (14, _), (13, _), (12, _), (11, _), (10, _), (9, _), (8, _), (7, _), (6, _), (5, _), (4, _), (3, _), (2, _), (1, _), (0, _)]) rfl ?_; intro a hf
      refine rdF hf rfl rfl rfl rfl (rfl) rfl (l' := [(23, _), (22, _), (21, _), (20, _), (19, _), (18, _), (17, _), (16, _), (15, _), (14, _), (13, _), (12, _), (11, _), (10, _), (9, _), (8, _), (7, _), (6, _), (5, _), (4, _), (3, _), (2, _), (1, _), (0, _)]) rfl ?_; intro a hf
      refine rdF hf rfl rfl rfl rfl (rfl) rfl (l' := [(24, _), (23, _), (22, _), (21, _), (20, _), (19, _), (18, _), (17, _), (16, _), (15, _), (14, _), (13, _), (12, _), (11, _), (10, _), (9, _), (8, _), (7, _), (6, _), (5, _), (4, _), (3, _), (2, _), (1, _), (0, _)]) rfl ?_; intro a hf
      refine rdF hf rfl rfl rfl rfl (rfl) rfl (l' := [(25, _), (24, _), (23, _), (22, _), (21, _), (20, _), (19, _), (18, _), (17, _), (16, _), (15, _), (14, _), (13, _), (12, _), (11, _), (10, _), (9, _), (8, _), (7, _), (6, _), (5, _), (4, _), (3, _), (2, _), (1, _), (0, _)]) rfl ?_; intro a hf
      refine efF hf rfl rfl rfl rfl (rfl) hT.allR (by simp [Nat.blt]) (l' := [(26, _), (25, _), (24, _), (23, _), (22, _), (21, _), (20, _), (19, _), (18, _), (17, _), (16, _), (15, _), (14, _), (13, _), (12, _), (11, _), (10, _), (9, _), (8, _), (7, _), (6, _), (5, _), (4, _), (3, _), (2, _), (1, _), (0, _)]) rfl ?_; intro a hf
      refine rd hf rfl (yl_pickTT rfl rfl rfl) rfl rfl ?_; intro a hf
      refine plan_nil ?_
      replace hf := hf.sel [27] (l' := [(27, _)]) rfl
      refine wp_ifTT hf rfl (rfl) ?_
      refine wpIn_seq ?_
      -- region 2 (buffer.go:20)
      refine wp_reg ([]) ([_] ++ rs) [(0, true)] mixed (by kernel_rfl) (hT) ?_; intro w hT
      refine rd hf rfl (yl_assign rfl) rfl rfl ?_; intro a hf
      refine plan_nil ?_
      refine wpIn_ret ?_
      have hok : ¬ r.Ok := by unfold Rec.Ok; omega
      exact body_ret hf (L := []) hT.tail rfl rfl ⟨by simp [retv, hok], rfl⟩
    · have hgT2 : decide (r.cls < 0 ∨ 9 < r.cls) = false := by simpa using hg8
      refine rdT hf rfl rfl rfl rfl (by first | exact hgT2 | simp [hgT2]) (yl_faddr Try.underlying31 rfl rfl sz_2 (k := 2) rfl) rfl (l' := [(12, _), (11, _), (10, _), (9, _), (8, _), (7, _), (6, _), (5, _), (4, _), (3, _), (2, _), (1, _), (0, _)]) rfl ?_; intro a hf
      refine rdT hf rfl rfl rfl rfl (by first | exact hgT2 | simp [hgT2]) (yl_load Try.underlying2 rfl rfl ⟨_, .head _, _, _, _, pt_self _ _, rfl⟩) rfl (l' := [(13, _), (12, _), (11, _), (10, _), (9, _), (8, _), (7, _), (6, _), (5, _), (4, _), (3, _), (2, _), (1, _), (0, _)]) rfl ?_; intro a hf
      refine ef_call hf rfl (by rw [wanted_some hf rfl rfl rfl rfl]; first | exact beqT hgT2 | simp [hgT2]) rfl rfl (by kernel_rfl) (Spec.frame (L2 := []) (outside_spec _ _ _ hT)) rfl (l' := [(13, _), (12, _), (11, _), (10, _), (9, _), (8, _), (7, _), (6, _), (5, _), (4, _), (3, _), (2, _), (1, _), (0, _)]) rfl ?_; rintro a w v L ⟨L1, ⟨rfl, rfl⟩, rfl⟩ hf hT
      refine rd hf rfl (yl_pickFF rfl hgT2 rfl) rfl rfl ?_; intro a hf
      refine rd hf rfl (yl_move rfl) rfl rfl ?_; intro a hf
      by_cases hg13 : r.made < 0 ∨ 1073741824 < r.made
      · have hgT3 : decide (r.made < 0 ∨ 1073741824 < r.made) = true := by simpa using hg13
        refine rdF hf rfl rfl rfl rfl (by first | exact hgT3 | simp [hgT3]) rfl (l' := [(17, _), (16, _), (15, _), (14, _), (13, _), (12, _), (11, _), (10, _), (9, _), (8, _), (7, _), (6, _), (5, _), (4, _), (3, _), (2, _), (1, _), (0, _)]) rfl ?_; intro a hf
        refine rdF hf rfl rfl rfl rfl (by first | exact hgT3 | simp [hgT3]) rfl (l' := [(18, _), (17, _), (16, _), (15, _), (14, _), (13, _), (12, _), (11, _), (10, _), (9, _), (8, _), (7, _), (6, _), (5, _), (4, _), (3, _), (2, _), (1, _), (0, _)]) rfl ?_; intro a hf
        refine efF hf rfl rfl rfl rfl (by first | exact hgT3 | simp [hgT3]) hT.allR (by simp [Nat.blt]) (l' := [(19, _), (18, _), (17, _), (16, _), (15, _), (14, _), (13, _), (12, _), (11, _), (10, _), (9, _), (8, _), (7, _), (6, _), (5, _), (4, _), (3, _), (2, _), (1, _), (0, _)]) rfl ?_; intro a hf
        refine rd hf rfl (yl_pickTT rfl hgT3 rfl) rfl rfl ?_; intro a hf
        refine rd hf rfl (yl_move rfl) rfl rfl ?_; intro a hf
        refine rdF hf rfl rfl rfl rfl (rfl) rfl (l' := [(22, _), (21, _), (20, _), (19, _), (18, _), (17, _), (16, _), (15, _), (14, _), (13, _), (12, _), (11, _), (10, _), (9, _), (8, _), (7, _), (6, _), (5, _), (4, _), (3, _), (2, _), (1, _), (0, _)]) rfl ?_; intro a hf
        refine rdF hf rfl rfl rfl rfl (rfl) rfl (l' := [(23, _), (22, _), (21, _), (20, _), (19, _), (18, _), (17, _), (16, _), (15, _), (14, _), (13, _), (12, _), (11, _), (10, _), (9, _), (8, _), (7, _), (6, _), (5, _), (4, _), (3, _), (2, _), (1, _), (0, _)]) rfl ?_; intro a hf
        refine rdF hf rfl rfl rfl rfl (rfl) rfl (l' := [(24, _), (23, _), (22, _), (21, _), (20, _), (19, _), (18, _), (17, _), (16, _), (15, _), (14, _), (13, _), (12, _), (11, _), (10, _), (9, _), (8, _), (7, _), (6, _), (5, _), (4, _), (3, _), (2, _), (1, _), (0, _)]) rfl ?_; intro a hf
        refine rdF hf rfl rfl rfl rfl (rfl) rfl (l' := [(25, _), (24, _), (23, _), (22, _), (21, _), (20, _), (19, _), (18, _), (17, _), (16, _), (15, _), (14, _), (13, _), (12, _), (11, _), (10, _), (9, _), (8, _), (7, _), (6, _), (5, _), (4, _), (3, _), (2, _), (1, _), (0, _)]) rfl ?_; intro a hf
        refine efF hf rfl rfl rfl rfl (rfl) hT.allR (by simp [Nat.blt]) (l' := [(26, _), (25, _), (24, _), (23, _), (22, _), (21, _), (20, _), (19, _), (18, _), (17, _), (16, _), (15, _), (14, _), (13, _), (12, _), (11, _), (10, _), (9, _), (8, _), (7, _), (6, _), (5, _), (4, _), (3, _), (2, _), (1, _), (0, _)]) rfl ?_; intro a hf
        refine rd hf rfl (yl_pickTT rfl rfl rfl) rfl rfl ?_; intro a hf
        refine plan_nil ?_
        replace hf := hf.sel [27] (l' := [(27, _)]) rfl
        refine wp_ifTT hf rfl (rfl) ?_
        refine wpIn_seq ?_
        -- region 2 (buffer.go:20)
        refine wp_reg ([]) ([_] ++ rs) [(0, true)] mixed (by kernel_rfl) (hT) ?_; intro w hT
        refine rd hf rfl (yl_assign rfl) rfl rfl ?_; intro a hf
        refine plan_nil ?_
        refine wpIn_ret ?_
        have hok : ¬ r.Ok := by unfold Rec.Ok; omega
        exact body_ret hf (L := []) hT.tail rfl rfl ⟨by simp [retv, hok], rfl⟩
      · have hgT3 : decide (r.made < 0 ∨ 1073741824 < r.made) = false := by simpa using hg13
        refine rdT hf rfl rfl rfl rfl (by first | exact hgT3 | simp [hgT3]) (yl_faddr Try.underlying31 rfl rfl sz_2 (k := 3) rfl) rfl (l' := [(17, _), (16, _), (15, _), (14, _), (13, _), (12, _), (11, _), (10, _), (9, _), (8, _), (7, _), (6, _), (5, _), (4, _), (3, _), (2, _), (1, _), (0, _)]) rfl ?_; intro a hf
        refine rdT hf rfl rfl rfl rfl (by first | exact hgT3 | simp [hgT3]) (yl_load Try.underlying2 rfl rfl ⟨_, .head _, _, _, _, pt_self _ _, rfl⟩) rfl (l' := [(18, _), (17, _), (16, _), (15, _), (14, _), (13, _), (12, _), (11, _), (10, _), (9, _), (8, _), (7, _), (6, _), (5, _), (4, _), (3, _), (2, _), (1, _), (0, _)]) rfl ?_; intro a hf
        refine ef_call hf rfl (by rw [wanted_some hf rfl rfl rfl rfl]; first | exact beqT hgT3 | simp [hgT3]) rfl rfl (by kernel_rfl) (Spec.frame (L2 := []) (outside_spec _ _ _ hT)) rfl (l' := [(18, _), (17, _), (16, _), (15, _), (14, _), (13, _), (12, _), (11, _), (10, _), (9, _), (8, _), (7, _), (6, _), (5, _), (4, _), (3, _), (2, _), (1, _), (0, _)]) rfl ?_; rintro a w v L ⟨L1, ⟨rfl, rfl⟩, rfl⟩ hf hT
        refine rd hf rfl (yl_pickFF rfl hgT3 rfl) rfl rfl ?_; intro a hf
        refine rd hf rfl (yl_move rfl) rfl rfl ?_; intro a hf
        by_cases hg18 : r.size < 1 ∨ 16777216 < r.size
        · have hgT4 : decide (r.size < 1 ∨ 16777216 < r.size) = true := by simpa using hg18
          refine rdF hf rfl rfl rfl rfl (by first | exact hgT4 | simp [hgT4]) rfl (l' := [(22, _), (21, _), (20, _), (19, _), (18, _), (17, _), (16, _), (15, _), (14, _), (13, _), (12, _), (11, _), (10, _), (9, _), (8, _), (7, _), (6, _), (5, _), (4, _), (3, _), (2, _), (1, _), (0, _)]) rfl ?_; intro a hf
          refine rdF hf rfl rfl rfl rfl (by first | exact hgT4 | simp [hgT4]) rfl (l' := [(23, _), (22, _), (21, _), (20, _), (19, _), (18, _), (17, _), (16, _), (15, _), (14, _), (13, _), (12, _), (11, _), (10, _), (9, _), (8, _), (7, _), (6, _), (5, _), (4, _), (3, _), (2, _), (1, _), (0, _)]) rfl ?_; intro a hf
          refine rdF hf rfl rfl rfl rfl (by first | exact hgT4 | simp [hgT4]) rfl (l' := [(24, _), (23, _), (22, _), (21, _), (20, _), (19, _), (18, _), (17, _), (16, _), (15, _), (14, _), (13, _), (12, _), (11, _), (10, _), (9, _), (8, _), (7, _), (6, _), (5, _), (4, _), (3, _), (2, _), (1, _), (0, _)]) rfl ?_; intro a hf
          refine rdF hf rfl rfl rfl rfl (by first | exact hgT4 | simp [hgT4]) rfl (l' := [(25, _), (24, _), (23, _), (22, _), (21, _), (20, _), (19, _), (18, _), (17, _), (16, _), (15, _), (14, _), (13, _), (12, _), (11, _), (10, _), (9, _), (8, _), (7, _), (6, _), (5, _), (4, _), (3, _), (2, _), (1, _), (0, _)]) rfl ?_; intro a hf
          refine efF hf rfl rfl rfl rfl (by first | exact hgT4 | simp [hgT4]) hT.allR (by simp [Nat.blt]) (l' := [(26, _), (25, _), (24, _), (23, _), (22, _), (21, _), (20, _), (19, _), (18, _), (17, _), (16, _), (15, _), (14, _), (13, _), (12, _), (11, _), (10, _), (9, _), (8, _), (7, _), (6, _), (5, _), (4, _), (3, _), (2, _), (1, _), (0, _)]) rfl ?_; intro a hf
          refine rd hf rfl (yl_pickTT rfl hgT4 rfl) rfl rfl ?_; intro a hf
          refine plan_nil ?_
          replace hf := hf.sel [27] (l' := [(27, _)]) rfl
          refine wp_ifTT hf rfl (rfl) ?_
          refine wpIn_seq ?_
          -- region 2 (buffer.go:20)
          refine wp_reg ([]) ([_] ++ rs) [(0, true)] mixed (by kernel_rfl) (hT) ?_; intro w hT
          refine rd hf rfl (yl_assign rfl) rfl rfl ?_; intro a hf
          refine plan_nil ?_
          refine wpIn_ret ?_
          have hok : ¬ r.Ok := by unfold Rec.Ok; omega
          exact body_ret hf (L := []) hT.tail rfl rfl ⟨by simp [retv, hok], rfl⟩
        · have hgT4 : decide (r.size < 1 ∨ 16777216 < r.size) = false := by simpa using hg18
          refine rdT hf rfl rfl rfl rfl (by first | exact hgT4 | simp [hgT4]) (yl_faddr Try.underlying31 rfl rfl sz_2 (k := 4) rfl) rfl (l' := [(22, _), (21, _), (20, _), (19, _), (18, _), (17, _), (16, _), (15, _), (14, _), (13, _), (12, _), (11, _), (10, _), (9, _), (8, _), (7, _), (6, _), (5, _), (4, _), (3, _), (2, _), (1, _), (0, _)]) rfl ?_; intro a hf
          refine rdT hf rfl rfl rfl rfl (by first | exact hgT4 | simp [hgT4]) (yl_load Try.underlying2 rfl rfl ⟨_, .head _, _, _, _, pt_self _ _, rfl⟩) rfl (l' := [(23, _), (22, _), (21, _), (20, _), (19, _), (18, _), (17, _), (16, _), (15, _), (14, _), (13, _), (12, _), (11, _), (10, _), (9, _), (8, _), (7, _), (6, _), (5, _), (4, _), (3, _), (2, _), (1, _), (0, _)]) rfl ?_; intro a hf
          refine rdT hf rfl rfl rfl rfl (by first | exact hgT4 | simp [hgT4]) (yl_faddr Try.underlying31 rfl rfl sz_2 (k := 3) rfl) rfl (l' := [(24, _), (23, _), (22, _), (21, _), (20, _), (19, _), (18, _), (17, _), (16, _), (15, _), (14, _), (13, _), (12, _), (11, _), (10, _), (9, _), (8, _), (7, _), (6, _), (5, _), (4, _), (3, _), (2, _), (1, _), (0, _)]) rfl ?_; intro a hf
          refine rdT hf rfl rfl rfl rfl (by first | exact hgT4 | simp [hgT4]) (yl_load Try.underlying2 rfl rfl ⟨_, .head _, _, _, _, pt_self _ _, rfl⟩) rfl (l' := [(25, _), (24, _), (23, _), (22, _), (21, _), (20, _), (19, _), (18, _), (17, _), (16, _), (15, _), (14, _), (13, _), (12, _), (11, _), (10, _), (9, _), (8, _), (7, _), (6, _), (5, _), (4, _), (3, _), (2, _), (1, _), (0, _)]) rfl ?_; intro a hf
          refine ef_call hf rfl (by rw [wanted_some hf rfl rfl rfl rfl]; first | exact beqT hgT4 | simp [hgT4]) rfl rfl (by kernel_rfl) (Spec.frame (L2 := []) (outside_spec _ _ _ hT)) rfl (l' := [(25, _), (24, _), (23, _), (22, _), (21, _), (20, _), (19, _), (18, _), (17, _), (16, _), (15, _), (14, _), (13, _), (12, _), (11, _), (10, _), (9, _), (8, _), (7, _), (6, _), (5, _), (4, _), (3, _), (2, _), (1, _), (0, _)]) rfl ?_; rintro a w v L ⟨L1, ⟨rfl, rfl⟩, rfl⟩ hf hT
          refine rd hf rfl (yl_pickFF rfl hgT4 rfl) rfl rfl ?_; intro a hf
          refine plan_nil ?_
          replace hf := hf.sel [27] (l' := [(27, _)]) rfl
          refine wp_ifd hf rfl (fun hlast => ?_) (fun hlast => ?_)
          · -- then
            refine wpIn_seq ?_
            -- region 2 (buffer.go:20)
            refine wp_reg ([]) ([_] ++ rs) [(0, true)] mixed (by kernel_rfl) (hT) ?_; intro w hT
            refine rd hf rfl (yl_assign rfl) rfl rfl ?_; intro a hf
            refine plan_nil ?_
            refine wpIn_ret ?_
            have hok : ¬ r.Ok := by unfold Rec.Ok; omega
            exact body_ret hf (L := []) hT.tail rfl rfl ⟨by simp [retv, hok], rfl⟩
          · -- else
            refine wpIn_skip ?_
            refine wpIn_seq ?_
            -- region 3 (buffer.go:22)
            refine wp_reg ([]) ([_] ++ rs) [(0, true)] mixed (by kernel_rfl) (hT) ?_; intro w hT
            refine rd hf rfl (yl_assign rfl) rfl rfl ?_; intro a hf
            refine plan_nil ?_
            refine wpIn_ret ?_
            have hok : r.Ok := by unfold Rec.Ok; omega
            exact body_ret hf (L := []) hT.tail rfl rfl ⟨by simp [retv, hok], rfl⟩
theorem Or_int {e : Env} {w : World} {rs : List Part} (xs : List Int) (v : Value) (hE : Els encI rs v xs) (hT : Tot e w rs) : Spec Try.prog 87 #[v] e w rs (fun v L => v = .int .i64 (orI xs) ∧ L = []) := by
  refine spec_body Try.func87 rfl Try.ntmps87 rfl rfl ?_
  intro a hf
  refine wpIn_seq ?_
  -- region 0 (cmp.go:69)
  refine wp_reg ([]) ([] ++ rs) [(0, true)] mixed (by kernel_rfl) (hT) ?_; intro w hT
  refine rd hf rfl (yl_assign rfl) rfl rfl ?_; intro a hf
  refine plan_nil ?_
  refine wpIn_seq ?_
  -- region 1 (cmp.go:70)
  refine wp_reg ([]) ([] ++ rs) [(0, true)] mixed (by kernel_rfl) (hT) ?_; intro w hT
  refine rd hf rfl (yl_assign rfl) rfl rfl ?_; intro a hf
  refine plan_nil ?_
  refine wpIn_seq ?_
  refine wpIn_seq ?_
  -- region 2 (cmp.go:71)
  refine wp_reg ([]) ([] ++ rs) [(0, true), (1, true), (2, true)] mixed (by kernel_rfl) (hT) ?_; intro w hT
  refine rd hf rfl (yl_move rfl) rfl rfl ?_; intro a hf
  refine rd hf rfl (yl_lenE rfl Try.underlying82 hE.app) rfl rfl ?_; intro a hf
  refine rd hf rfl (yl_move rfl) rfl rfl ?_; intro a hf
  refine plan_nil ?_
  refine wpIn_block ?_
  have hlen := hE.len_le
  refine wp_loopS (σ := Nat) (fun k => [(8, .int .i64 (k : Nat))]) [(7, _), (6, _), (3, _)] (fun k L => L = [] ∧ k ≤ xs.length ∧ orI (xs.drop k) = orI xs) (fun k => xs.length - k) 0 (L := []) (R := [] ++ rs) (hf.sel [8, 7, 6, 3] rfl) (⟨rfl, Nat.zero_le _, rfl⟩) hT ?_
  clear hf hT; rintro k a w L hf ⟨rfl, hk, ho⟩ hT
  replace hf : Fr _ [(8, .int .i64 (k : Nat)), (7, _), (6, _), (3, _)] _ _ := hf
  refine wpIn_seq ?_
  -- region 3 (cmp.go:71)
  refine wp_reg ([]) ([] ++ rs) [(0, true)] mixed (by kernel_rfl) (hT) ?_; intro w hT
  refine rd hf rfl (yl_cmp rfl rfl rfl) rfl rfl ?_; intro a hf
  refine plan_nil ?_
  refine wpIn_seq ?_
  refine wp_ifd hf rfl (fun hlt => ?_) (fun hlt => ?_)
  · -- then
    have hlt' : k < xs.length := by omega
    have hj : xs[k]? = some xs[k] := List.getElem?_eq_getElem hlt'
    have hdr : orI (xs.drop k) = if xs[k] ≠ 0 then xs[k] else orI (xs.drop (k + 1)) := by rw [List.drop_eq_getElem_cons hlt']; rfl
    refine wpIn_skip ?_
    refine wpIn_seq ?_
    refine wpIn_block ?_
    refine wpIn_seq ?_
    -- region 4 (cmp.go:71)
    refine wp_reg ([]) ([] ++ rs) [(0, true), (1, true), (2, true)] mixed (by kernel_rfl) (hT) ?_; intro w hT
    refine rd hf rfl (yl_indexE rfl rfl Try.underlying82 sz_3 hE.app (by omega) (by omega)) rfl rfl ?_; intro a hf
    refine rd hf rfl (yl_load Try.underlying3 rfl rfl (hE.app.cell hj (f := 0) rfl)) rfl rfl ?_; intro a hf
    refine rd hf rfl (yl_assign rfl) rfl rfl ?_; intro a hf
    refine plan_nil ?_
    replace hf := hf.sel [5, 8, 7, 6, 3] (l' := [(5, _), (8, _), (7, _), (6, _), (3, _)]) rfl
    refine wpIn_seq ?_
    -- region 5 (cmp.go:72)
    refine wp_reg ([]) ([] ++ rs) [(0, true), (1, true), (2, true)] mixed (by kernel_rfl) (hT) ?_; intro w hT
    refine rd hf rfl (yl_move rfl) rfl rfl ?_; intro a hf
    refine rd hf rfl (yl_move rfl) rfl rfl ?_; intro a hf
    refine rd hf rfl (yl_cmp rfl rfl rfl) rfl rfl ?_; intro a hf
    refine plan_nil ?_
    refine wp_ifd hf rfl (fun hne => ?_) (fun hne => ?_)
    · -- then
      rw [if_pos hne, ho] at hdr
      refine wpIn_seq ?_
      -- region 6 (cmp.go:73)
      refine wp_reg ([]) ([] ++ rs) [(0, true), (1, true)] mixed (by kernel_rfl) (hT) ?_; intro w hT
      refine rd hf rfl (yl_move rfl) rfl rfl ?_; intro a hf
      refine rd hf rfl (yl_assign rfl) rfl rfl ?_; intro a hf
      refine plan_nil ?_
      replace hf := hf.sel [2] (l' := [(2, _)]) rfl
      refine wpIn_ret ?_
      exact body_ret hf (L := []) hT rfl rfl ⟨by first | rw [hdr]; rfl | simp [retv, ho'], rfl⟩
    · -- else
      have hstep : orI (xs.drop (k + 1)) = orI xs := by rw [if_neg hne, ho] at hdr; exact hdr.symm
      refine wpIn_skip ?_
      -- region 7 (cmp.go:71)
      refine wp_reg ([]) ([] ++ rs) [(0, true), (1, true)] mixed (by kernel_rfl) (hT) ?_; intro w hT
      refine rd hf rfl (yl_add rfl rfl (by unfold inI64; omega)) rfl rfl ?_; intro a hf
      refine rw_ hf rfl (yl_move rfl) rfl (l' := [(8, _), (16, _), (14, _), (13, _), (12, _), (5, _), (7, _), (6, _), (3, _)]) rfl ?_; intro a hf
      refine plan_nil ?_
      replace hf := hf.sel [8, 7, 6, 3] (l' := [(8, _), (7, _), (6, _), (3, _)]) rfl
      exact ⟨k + 1, _, hf.sel [8, 7, 6, 3] rfl, ⟨rfl, by omega, hstep⟩, hT, by first | omega | (dsimp only; omega)⟩
  · -- else
    obtain rfl : k = xs.length := by omega
    have ho' : orI xs = 0 := by rw [← ho]; simp [orI]
    refine wpIn_exit ?_
    refine then_exit ?_
    refine then_exit ?_
    refine inBlock_hit ?_
    refine wpIn_seq ?_
    -- region 8 (cmp.go:76)
    refine wp_reg ([]) ([] ++ rs) [(0, true), (1, true)] mixed (by kernel_rfl) (hT) ?_; intro w hT
    refine rd hf rfl (yl_move rfl) rfl rfl ?_; intro a hf
    refine rd hf rfl (yl_assign rfl) rfl rfl ?_; intro a hf
    refine plan_nil ?_
    replace hf := hf.sel [2] (l' := [(2, _)]) rfl
    refine wpIn_ret ?_
    exact body_ret hf (L := []) hT rfl rfl ⟨by first | rw [hdr]; rfl | simp [retv, ho'], rfl⟩
theorem Or_err {e : Env} {w : World} {rs : List Part} (xs : List Int) (v : Value) (hE : Els encI rs v xs) (hT : Tot e w rs) : Spec Try.prog 92 #[v] e w rs (fun v L => v = .int .i64 (orI xs) ∧ L = []) := by
  refine spec_body Try.func92 rfl Try.ntmps92 rfl rfl ?_
  intro a hf
  refine wpIn_seq ?_
  -- region 0 (cmp.go:69)
  refine wp_reg ([]) ([] ++ rs) [(0, true)] mixed (by kernel_rfl) (hT) ?_; intro w hT
  refine rd hf rfl (yl_assign rfl) rfl rfl ?_; intro a hf
  refine plan_nil ?_
  refine wpIn_seq ?_
  -- region 1 (cmp.go:70)
  refine wp_reg ([]) ([] ++ rs) [(0, true)] mixed (by kernel_rfl) (hT) ?_; intro w hT
  refine rd hf rfl (yl_assign rfl) rfl rfl ?_; intro a hf
  refine plan_nil ?_
  refine wpIn_seq ?_
  refine wpIn_seq ?_
  -- region 2 (cmp.go:71)
  refine wp_reg ([]) ([] ++ rs) [(0, true), (1, true), (2, true)] mixed (by kernel_rfl) (hT) ?_; intro w hT
  refine rd hf rfl (yl_move rfl) rfl rfl ?_; intro a hf
  refine rd hf rfl (yl_lenE rfl Try.underlying173 hE.app) rfl rfl ?_; intro a hf
  refine rd hf rfl (yl_move rfl) rfl rfl ?_; intro a hf
  refine plan_nil ?_
  refine wpIn_block ?_
  have hlen := hE.len_le
  refine wp_loopS (σ := Nat) (fun k => [(8, .int .i64 (k : Nat))]) [(7, _), (6, _), (3, _)] (fun k L => L = [] ∧ k ≤ xs.length ∧ orI (xs.drop k) = orI xs) (fun k => xs.length - k) 0 (L := []) (R := [] ++ rs) (hf.sel [8, 7, 6, 3] rfl) (⟨rfl, Nat.zero_le _, rfl⟩) hT ?_
  clear hf hT; rintro k a w L hf ⟨rfl, hk, ho⟩ hT
  replace hf : Fr _ [(8, .int .i64 (k : Nat)), (7, _), (6, _), (3, _)] _ _ := hf
  refine wpIn_seq ?_
  -- region 3 (cmp.go:71)
  refine wp_reg ([]) ([] ++ rs) [(0, true)] mixed (by kernel_rfl) (hT) ?_; intro w hT
  refine rd hf rfl (yl_cmp rfl rfl rfl) rfl rfl ?_; intro a hf
  refine plan_nil ?_
  refine wpIn_seq ?_
  refine wp_ifd hf rfl (fun hlt => ?_) (fun hlt => ?_)
  · -- then
    have hlt' : k < xs.length := by omega
    have hj : xs[k]? = some xs[k] := List.getElem?_eq_getElem hlt'
    have hdr : orI (xs.drop k) = if xs[k] ≠ 0 then xs[k] else orI (xs.drop (k + 1)) := by rw [List.drop_eq_getElem_cons hlt']; rfl
    refine wpIn_skip ?_
    refine wpIn_seq ?_
    refine wpIn_block ?_
    refine wpIn_seq ?_
    -- region 4 (cmp.go:71)
    refine wp_reg ([]) ([] ++ rs) [(0, true), (1, true), (2, true)] mixed (by kernel_rfl) (hT) ?_; intro w hT
    refine rd hf rfl (yl_indexE rfl rfl Try.underlying173 sz_26 hE.app (by omega) (by omega)) rfl rfl ?_; intro a hf
    refine rd hf rfl (yl_load Try.underlying26 rfl rfl (hE.app.cell hj (f := 0) rfl)) rfl rfl ?_; intro a hf
    refine rd hf rfl (yl_assign rfl) rfl rfl ?_; intro a hf
    refine plan_nil ?_
    replace hf := hf.sel [5, 8, 7, 6, 3] (l' := [(5, _), (8, _), (7, _), (6, _), (3, _)]) rfl
    refine wpIn_seq ?_
    -- region 5 (cmp.go:72)
    refine wp_reg ([]) ([] ++ rs) [(0, true), (1, true), (2, true)] mixed (by kernel_rfl) (hT) ?_; intro w hT
    refine rd hf rfl (yl_move rfl) rfl rfl ?_; intro a hf
    refine rd hf rfl (yl_move rfl) rfl rfl ?_; intro a hf
    refine rd hf rfl (yl_cmp rfl rfl rfl) rfl rfl ?_; intro a hf
    refine plan_nil ?_
    refine wp_ifd hf rfl (fun hne => ?_) (fun hne => ?_)
    · -- then
      rw [if_pos hne, ho] at hdr
      refine wpIn_seq ?_
      -- region 6 (cmp.go:73)
      refine wp_reg ([]) ([] ++ rs) [(0, true), (1, true)] mixed (by kernel_rfl) (hT) ?_; intro w hT
      refine rd hf rfl (yl_move rfl) rfl rfl ?_; intro a hf
      refine rd hf rfl (yl_assign rfl) rfl rfl ?_; intro a hf
      refine plan_nil ?_
      replace hf := hf.sel [2] (l' := [(2, _)]) rfl
      refine wpIn_ret ?_
      exact body_ret hf (L := []) hT rfl rfl ⟨by first | rw [hdr]; rfl | simp [retv, ho'], rfl⟩
    · -- else
      have hstep : orI (xs.drop (k + 1)) = orI xs := by rw [if_neg hne, ho] at hdr; exact hdr.symm
      refine wpIn_skip ?_
      -- region 7 (cmp.go:71)
      refine wp_reg ([]) ([] ++ rs) [(0, true), (1, true)] mixed (by kernel_rfl) (hT) ?_; intro w hT
      refine rd hf rfl (yl_add rfl rfl (by unfold inI64; omega)) rfl rfl ?_; intro a hf
      refine rw_ hf rfl (yl_move rfl) rfl (l' := [(8, _), (16, _), (14, _), (13, _), (12, _), (5, _), (7, _), (6, _), (3, _)]) rfl ?_; intro a hf
      refine plan_nil ?_
      replace hf := hf.sel [8, 7, 6, 3] (l' := [(8, _), (7, _), (6, _), (3, _)]) rfl
      exact ⟨k + 1, _, hf.sel [8, 7, 6, 3] rfl, ⟨rfl, by omega, hstep⟩, hT, by first | omega | (dsimp only; omega)⟩
  · -- else
    obtain rfl : k = xs.length := by omega
    have ho' : orI xs = 0 := by rw [← ho]; simp [orI]
    refine wpIn_exit ?_
    refine then_exit ?_
    refine then_exit ?_
    refine inBlock_hit ?_
    refine wpIn_seq ?_
    -- region 8 (cmp.go:76)
    refine wp_reg ([]) ([] ++ rs) [(0, true), (1, true)] mixed (by kernel_rfl) (hT) ?_; intro w hT
    refine rd hf rfl (yl_move rfl) rfl rfl ?_; intro a hf
    refine rd hf rfl (yl_assign rfl) rfl rfl ?_; intro a hf
    refine plan_nil ?_
    replace hf := hf.sel [2] (l' := [(2, _)]) rfl
    refine wpIn_ret ?_
    exact body_ret hf (L := []) hT rfl rfl ⟨by first | rw [hdr]; rfl | simp [retv, ho'], rfl⟩
theorem cmpR_spec {e : Env} {w : World} {rs : List Part} (r1 r2 : Rec) (hT : Tot e w rs) : Spec Try.prog 50 #[encR r1, encR r2] e w rs (fun v L => v = .int .i64 (cmpR r1 r2) ∧ L = []) := by
  refine spec_body Try.func50 rfl Try.ntmps50 rfl rfl ?_
  intro a hf
  refine wpIn_seq ?_
  -- region 0 (buffer.go:26)
  refine wp_reg ([]) ([] ++ rs) [(0, false), (1, false), (2, true)] mixed (by kernel_rfl) (hT) ?_; intro w hT
  refine ef hf hT rfl rfl (ef_box rfl) rfl (l' := [(0, _), (1, _)]) rfl ?_; rintro a w v L ⟨b1, rfl, rfl⟩ hf hT
  refine ef hf hT rfl rfl (ef_box rfl) rfl (l' := [(2, _), (0, _), (1, _)]) rfl ?_; rintro a w v L ⟨b2, rfl, rfl⟩ hf hT
  refine rd hf rfl (yl_assign rfl) rfl rfl ?_; intro a hf
  refine plan_nil ?_
  replace hf := hf.sel [3, 2] (l' := [(3, _), (2, _)]) rfl
  refine wpIn_seq ?_
  -- region 1 (buffer.go:27)
  refine wp_reg ([]) ([_, _] ++ rs) [(0, true), (1, true), (2, true), (3, true), (5, true), (6, true), (7, true), (8, true), (10, true), (11, true), (12, true), (13, true), (4, false), (9, false), (14, false), (15, false), (16, false), (17, true)] mixed (by kernel_rfl) (hT) ?_; intro w hT
  refine rd hf rfl (yl_faddr Try.underlying31 rfl rfl sz_3 (k := 1) rfl) rfl rfl ?_; intro a hf
  refine rd hf rfl (yl_load Try.underlying3 rfl rfl ⟨_, .head _, _, _, _, pt_self _ _, rfl⟩) rfl rfl ?_; intro a hf
  refine rd hf rfl (yl_faddr Try.underlying31 rfl rfl sz_3 (k := 1) rfl) rfl rfl ?_; intro a hf
  refine rd hf rfl (yl_load Try.underlying3 rfl rfl ⟨_, .tail _ (.head _), _, _, _, pt_self _ _, rfl⟩) rfl rfl ?_; intro a hf
  refine rd hf rfl (yl_faddr Try.underlying31 rfl rfl sz_2 (k := 2) rfl) rfl rfl ?_; intro a hf
  refine rd hf rfl (yl_load Try.underlying2 rfl rfl ⟨_, .head _, _, _, _, pt_self _ _, rfl⟩) rfl rfl ?_; intro a hf
  refine rd hf rfl (yl_faddr Try.underlying31 rfl rfl sz_2 (k := 2) rfl) rfl rfl ?_; intro a hf
  refine rd hf rfl (yl_load Try.underlying2 rfl rfl ⟨_, .tail _ (.head _), _, _, _, pt_self _ _, rfl⟩) rfl rfl ?_; intro a hf
  refine rd hf rfl (yl_faddr Try.underlying31 rfl rfl sz_2 (k := 0) rfl) rfl rfl ?_; intro a hf
  refine rd hf rfl (yl_load Try.underlying2 rfl rfl ⟨_, .tail _ (.head _), _, _, _, pt_self _ _, rfl⟩) rfl rfl ?_; intro a hf
  refine rd hf rfl (yl_faddr Try.underlying31 rfl rfl sz_2 (k := 0) rfl) rfl rfl ?_; intro a hf
  refine rd hf rfl (yl_load Try.underlying2 rfl rfl ⟨_, .head _, _, _, _, pt_self _ _, rfl⟩) rfl rfl ?_; intro a hf
  refine ef_call hf rfl (wanted_none _ _ rfl) rfl rfl (by kernel_rfl) (Spec.frame (L2 := []) (compare_int _ _ hT)) rfl (l' := [(18, _), (17, _), (16, _), (15, _), (13, _), (12, _), (11, _), (10, _), (8, _), (7, _), (6, _), (5, _), (3, _), (2, _)]) rfl ?_; rintro a w v L ⟨L1, ⟨rfl, rfl⟩, rfl⟩ hf hT
  refine ef_call hf rfl (wanted_none _ _ rfl) rfl rfl (by kernel_rfl) (Spec.frame (L2 := []) (compare_int64 _ _ hT)) rfl (l' := [(9, _), (18, _), (17, _), (16, _), (15, _), (13, _), (12, _), (11, _), (10, _), (8, _), (7, _), (6, _), (5, _), (3, _), (2, _)]) rfl ?_; rintro a w v L ⟨L1, ⟨rfl, rfl⟩, rfl⟩ hf hT
  refine ef_call hf rfl (wanted_none _ _ rfl) rfl rfl (by kernel_rfl) (Spec.frame (L2 := []) (compare_int64 _ _ hT)) rfl (l' := [(14, _), (9, _), (18, _), (17, _), (16, _), (15, _), (13, _), (12, _), (11, _), (10, _), (8, _), (7, _), (6, _), (5, _), (3, _), (2, _)]) rfl ?_; rintro a w v L ⟨L1, ⟨rfl, rfl⟩, rfl⟩ hf hT
  refine ef hf hT rfl rfl (ef_buildSlice (E := encI) (xs := [sgn r2.cls r1.cls, sgn r2.made r1.made, sgn r1.id r2.id]) rfl rfl Try.underlying82 zs_3 rfl (by decide) rfl (by decide)) rfl (l' := [(19, _), (14, _), (9, _), (18, _), (17, _), (16, _), (15, _), (13, _), (12, _), (11, _), (10, _), (8, _), (7, _), (6, _), (5, _), (3, _), (2, _)]) rfl ?_; rintro a w v1 L ⟨b3, p1, hvp1, hp1, rfl⟩ hf hT
  refine ef_call hf rfl (wanted_none _ _ rfl) rfl rfl (by kernel_rfl) (Spec.frame (L2 := [_]) (Or_int [sgn r2.cls r1.cls, sgn r2.made r1.made, sgn r1.id r2.id] v1 (hp1.els (.head _)) hT)) rfl (l' := [(20, _), (19, _), (14, _), (9, _), (18, _), (17, _), (16, _), (15, _), (13, _), (12, _), (11, _), (10, _), (8, _), (7, _), (6, _), (5, _), (3, _), (2, _)]) rfl ?_; rintro a w v L ⟨L1, ⟨rfl, rfl⟩, rfl⟩ hf hT
  refine rd hf rfl (yl_assign rfl) rfl rfl ?_; intro a hf
  refine plan_nil ?_
  replace hf := hf.sel [4] (l' := [(4, _)]) rfl
  refine wpIn_ret ?_
  exact body_ret hf (L := []) hT.tail.tail.tail rfl rfl ⟨rfl, rfl⟩
theorem Less_spec {e : Env} {w : World} {rs : List Part} (r1 r2 : Rec) (hT : Tot e w rs) : Spec Try.prog 54 #[encR r1, encR r2] e w rs (fun v L => v = (if r1.Ok ∧ r2.Ok then .tuple #[.bool (decide (0 < cmpR r1 r2)), .int .i64 0] else .tuple #[.bool false, .int .i64 2]) ∧ L = []) := by
  refine spec_body Try.func54 rfl Try.ntmps54 rfl rfl ?_
  intro a hf
  refine wpIn_seq ?_
  -- region 0 (buffer.go:31)
  refine wp_reg ([]) ([] ++ rs) [(0, false), (1, false), (2, true), (3, true)] mixed (by kernel_rfl) (hT) ?_; intro w hT
  refine ef hf hT rfl rfl (ef_box rfl) rfl (l' := [(0, _), (1, _)]) rfl ?_; rintro a w v L ⟨b1, rfl, rfl⟩ hf hT
  refine ef hf hT rfl rfl (ef_box rfl) rfl (l' := [(2, _), (0, _), (1, _)]) rfl ?_; rintro a w v L ⟨b2, rfl, rfl⟩ hf hT
  refine rd hf rfl (yl_assign rfl) rfl rfl ?_; intro a hf
  refine rd hf rfl (yl_assign rfl) rfl rfl ?_; intro a hf
  refine plan_nil ?_
  replace hf := hf.sel [3, 2] (l' := [(3, _), (2, _)]) rfl
  refine wpIn_seq ?_
  refine wpIn_seq ?_
  -- region 1 (buffer.go:32)
  refine wp_reg ([]) ([_, _] ++ rs) [(0, true), (2, true), (1, false), (3, false), (4, false), (5, false), (6, true)] mixed (by kernel_rfl) (hT) ?_; intro w hT
  refine rd hf rfl (yl_loadB Try.underlying31 rfl sz_31 (.tail _ (.head _)) rfl (pt_self _ _) rfl rfl) rfl rfl ?_; intro a hf
  refine rd hf rfl (yl_loadB Try.underlying31 rfl sz_31 (.head _) rfl (pt_self _ _) rfl rfl) rfl rfl ?_; intro a hf
  refine ef_call hf rfl (wanted_none _ _ rfl) rfl rfl (by kernel_rfl) (Spec.frame (L2 := []) (Check_spec r1 hT)) rfl (l' := [(9, _), (7, _), (3, _), (2, _)]) rfl ?_; rintro a w v L ⟨L1, ⟨rfl, rfl⟩, rfl⟩ hf hT
  refine ef_call hf rfl (wanted_none _ _ rfl) rfl rfl (by kernel_rfl) (Spec.frame (L2 := []) (Check_spec r2 hT)) rfl (l' := [(8, _), (9, _), (7, _), (3, _), (2, _)]) rfl ?_; rintro a w v L ⟨L1, ⟨rfl, rfl⟩, rfl⟩ hf hT
  refine ef hf hT rfl rfl (ef_buildSlice (E := encI) (xs := [if r1.Ok then 0 else 2, if r2.Ok then 0 else 2]) rfl rfl Try.underlying173 zs_26 rfl (by decide) rfl (by decide)) rfl (l' := [(10, _), (8, _), (9, _), (7, _), (3, _), (2, _)]) rfl ?_; rintro a w v1 L ⟨b3, p1, hvp1, hp1, rfl⟩ hf hT
  refine ef_call hf rfl (wanted_none _ _ rfl) rfl rfl (by kernel_rfl) (Spec.frame (L2 := [_]) (Or_err [if r1.Ok then 0 else 2, if r2.Ok then 0 else 2] v1 (hp1.els (.head _)) hT)) rfl (l' := [(11, _), (10, _), (8, _), (9, _), (7, _), (3, _), (2, _)]) rfl ?_; rintro a w v L ⟨L1, ⟨rfl, rfl⟩, rfl⟩ hf hT
  refine rd hf rfl (yl_assign rfl) rfl rfl ?_; intro a hf
  refine plan_nil ?_
  replace hf := hf.sel [6, 3, 2] (l' := [(6, _), (3, _), (2, _)]) rfl
  refine wpIn_seq ?_
  -- region 2 (buffer.go:32)
  refine wp_reg ([]) ([_, _, _] ++ rs) [(0, true), (1, true)] mixed (by kernel_rfl) (hT) ?_; intro w hT
  refine rd hf rfl (yl_move rfl) rfl rfl ?_; intro a hf
  refine rd hf rfl (yl_cmp rfl rfl rfl) rfl rfl ?_; intro a hf
  refine plan_nil ?_
  refine wp_ifd hf rfl (fun hbad => ?_) (fun hbad => ?_)
  · -- then
    refine wpIn_seq ?_
    -- region 3 (buffer.go:33)
    refine wp_reg ([]) ([_, _, _] ++ rs) [(0, true), (1, true), (2, true)] mixed (by kernel_rfl) (hT) ?_; intro w hT
    refine rd hf rfl (yl_move rfl) rfl rfl ?_; intro a hf
    refine rd hf rfl (yl_assign rfl) rfl rfl ?_; intro a hf
    refine rd hf rfl (yl_assign rfl) rfl rfl ?_; intro a hf
    refine plan_nil ?_
    replace hf := hf.sel [5, 4] (l' := [(5, _), (4, _)]) rfl
    refine wpIn_ret ?_
    exact body_ret hf (L := []) hT.tail.tail.tail rfl rfl ⟨by by_cases h1 : r1.Ok <;> by_cases h2 : r2.Ok <;> simp_all [retv, orI], rfl⟩
  · -- else
    refine wpIn_skip ?_
    refine wpIn_seq ?_
    -- region 4 (buffer.go:35)
    refine wp_reg ([]) ([_, _, _] ++ rs) [(0, true), (1, true), (2, false), (3, true), (4, true), (5, true)] mixed (by kernel_rfl) (hT) ?_; intro w hT
    refine rd hf rfl (yl_loadB Try.underlying31 rfl sz_31 (.tail _ (.tail _ (.head _))) rfl (pt_self _ _) rfl rfl) rfl rfl ?_; intro a hf
    refine rd hf rfl (yl_loadB Try.underlying31 rfl sz_31 (.tail _ (.head _)) rfl (pt_self _ _) rfl rfl) rfl rfl ?_; intro a hf
    refine ef_call hf rfl (wanted_none _ _ rfl) rfl rfl (by kernel_rfl) (Spec.frame (L2 := []) (cmpR_spec r1 r2 hT)) rfl (l' := [(17, _), (16, _), (14, _), (13, _), (6, _), (3, _), (2, _)]) rfl ?_; rintro a w v L ⟨L1, ⟨rfl, rfl⟩, rfl⟩ hf hT
    refine rd hf rfl (yl_cmp rfl rfl rfl) rfl rfl ?_; intro a hf
    refine rd hf rfl (yl_assign rfl) rfl rfl ?_; intro a hf
    refine rd hf rfl (yl_assign rfl) rfl rfl ?_; intro a hf
    refine plan_nil ?_
    replace hf := hf.sel [5, 4] (l' := [(5, _), (4, _)]) rfl
    refine wpIn_ret ?_
    exact body_ret hf (L := []) hT.tail.tail.tail rfl rfl ⟨by by_cases h1 : r1.Ok <;> by_cases h2 : r2.Ok <;> simp_all [retv, orI], rfl⟩
end Go.Proofs.Ytjhbgciocffihaa
