-- written by gen.py out of walks texts of my own
import Derived.Test.YtjhbgciocffihaaB32
import Derived.Test.YtjhbgciocffihaaB1
set_option linter.unusedVariables false
set_option linter.unusedSimpArgs false
set_option maxHeartbeats 4000000
namespace Go.Proofs.Ytjhbgciocffihaa
def Ch.cells (c : Ch) : List Value := [.int .u32 (c.b : Int), .int .i64 c.w, .int .i64 c.s]
def encCh : Enc Ch := ⟨Ch.cells, 3, fun _ => rfl, fun a u h => by simp [Ch.cells] at h; rcases h with rfl | rfl | rfl <;> rfl, by decide⟩
def encC (c : Ch) : Value := .agg #[.int .u32 (c.b : Int), .int .i64 c.w, .int .i64 c.s]
def Pcl.cells (x : Pcl) : List Value := [.int .i64 x.sz, .int .i64 x.wo]
def encPl : Enc Pcl := ⟨Pcl.cells, 2, fun _ => rfl, fun a u h => by simp [Pcl.cells] at h; rcases h with rfl | rfl <;> rfl, by decide⟩
def encP (x : Pcl) : Value := .agg #[.int .i64 x.sz, .int .i64 x.wo]
theorem gt_or (c d : Ch) : 0 < orI [sgn c.w d.w, sgn d.s c.s, sgn (c.b : Int) (d.b : Int)] ↔ gt c d := by
  simp only [orI, sgn, gt]
  repeat' split
  all_goals omega
theorem isNaN_u32 {e : Env} {w : World} {rs : List Part} (x : Int) (hT : Tot e w rs) : Spec Try.prog 124 #[.int .u32 x] e w rs (fun v L => v = .bool false ∧ L = []) := by
  refine spec_body Try.func124 rfl Try.ntmps124 rfl rfl ?_
  intro a hf
  refine wpIn_seq ?_
  -- region 0 (cmp.go:63)
  refine wp_reg ([]) ([] ++ rs) [(0, true)] mixed (by kernel_rfl) (hT) ?_; intro w hT
  refine rd hf rfl (yl_assign rfl) rfl rfl ?_; intro a hf
  refine plan_nil ?_
  refine wpIn_seq ?_
  -- region 1 (cmp.go:64)
  refine wp_reg ([]) ([] ++ rs) [(0, true), (1, true), (2, true), (3, true)] mixed (by kernel_rfl) (hT) ?_; intro w hT
  refine rd hf rfl (yl_move rfl) rfl rfl ?_; intro a hf
  refine rd hf rfl (yl_move rfl) rfl rfl ?_; intro a hf
  refine rd hf rfl (yl_cmp rfl rfl rfl) rfl rfl ?_; intro a hf
  refine rw_ hf rfl (yl_assign rfl) rfl (l' := [(2, _), (5, _), (4, _), (3, _), (0, _)]) rfl ?_; intro a hf
  refine plan_nil ?_
  replace hf := hf.sel [2] (l' := [(2, _)]) rfl
  refine wpIn_ret ?_
  exact body_ret hf (L := []) hT rfl rfl ⟨by simp [retv], rfl⟩
theorem compare_u32 {e : Env} {w : World} {rs : List Part} (x y : Int) (hT : Tot e w rs) : Spec Try.prog 107 #[.int .u32 x, .int .u32 y] e w rs (fun v L => v = .int .i64 (sgn x y) ∧ L = []) := by
  refine spec_body Try.func107 rfl Try.ntmps107 rfl rfl ?_
  intro a hf
  refine wpIn_seq ?_
  -- region 0 (cmp.go:40)
  refine wp_reg ([]) ([] ++ rs) [(0, true)] mixed (by kernel_rfl) (hT) ?_; intro w hT
  refine rd hf rfl (yl_assign rfl) rfl rfl ?_; intro a hf
  refine plan_nil ?_
  refine wpIn_seq ?_
  -- region 1 (cmp.go:41)
  refine wp_reg ([]) ([] ++ rs) [(0, true), (1, false), (2, true)] mixed (by kernel_rfl) (hT) ?_; intro w hT
  refine rd hf rfl (yl_move rfl) rfl rfl ?_; intro a hf
  refine ef_call hf rfl (wanted_none _ _ rfl) rfl rfl (by kernel_rfl) (Spec.frame (L2 := []) (isNaN_u32 _ hT)) rfl (l' := [(7, _), (4, _), (0, _), (1, _)]) rfl ?_; rintro a w v L ⟨L1, ⟨rfl, rfl⟩, rfl⟩ hf hT
  refine rd hf rfl (yl_assign rfl) rfl rfl ?_; intro a hf
  refine plan_nil ?_
  replace hf := hf.sel [5, 0, 1] (l' := [(5, _), (0, _), (1, _)]) rfl
  refine wpIn_seq ?_
  -- region 2 (cmp.go:42)
  refine wp_reg ([]) ([] ++ rs) [(0, true), (1, false), (2, true)] mixed (by kernel_rfl) (hT) ?_; intro w hT
  refine rd hf rfl (yl_move rfl) rfl rfl ?_; intro a hf
  refine ef_call hf rfl (wanted_none _ _ rfl) rfl rfl (by kernel_rfl) (Spec.frame (L2 := []) (isNaN_u32 _ hT)) rfl (l' := [(9, _), (5, _), (0, _), (1, _)]) rfl ?_; rintro a w v L ⟨L1, ⟨rfl, rfl⟩, rfl⟩ hf hT
  refine rd hf rfl (yl_assign rfl) rfl rfl ?_; intro a hf
  refine plan_nil ?_
  refine wpIn_seq ?_
  refine wpIn_seq ?_
  -- region 3 (cmp.go:43)
  refine wp_reg ([]) ([] ++ rs) [(0, true)] mixed (by kernel_rfl) (hT) ?_; intro w hT
  refine rd hf rfl (yl_move rfl) rfl rfl ?_; intro a hf
  refine plan_nil ?_
  replace hf := hf.sel [11, 6, 0, 1] (l' := [(11, _), (6, _), (0, _), (1, _)]) rfl
  refine wp_ifFF hf rfl (rfl) ?_
  refine wpIn_skip ?_
  refine wpIn_seq ?_
  refine wpIn_seq ?_
  -- region 7 (cmp.go:49)
  refine wp_reg ([]) ([] ++ rs) [(0, true)] mixed (by kernel_rfl) (hT) ?_; intro w hT
  refine rd hf rfl (yl_move rfl) rfl rfl ?_; intro a hf
  refine plan_nil ?_
  refine wp_ifFF hf rfl (rfl) ?_
  refine wpIn_skip ?_
  refine wpIn_seq ?_
  refine wpIn_seq ?_
  -- region 9 (cmp.go:52)
  refine wp_reg ([]) ([] ++ rs) [(0, true), (1, true), (2, true)] mixed (by kernel_rfl) (hT) ?_; intro w hT
  refine rd hf rfl (yl_move rfl) rfl rfl ?_; intro a hf
  refine rd hf rfl (yl_move rfl) rfl rfl ?_; intro a hf
  refine rd hf rfl (yl_cmp rfl rfl rfl) rfl rfl ?_; intro a hf
  refine plan_nil ?_
  replace hf := hf.sel [16, 0, 1] (l' := [(16, _), (0, _), (1, _)]) rfl
  refine wp_ifd hf rfl (fun h1 => ?_) (fun h1 => ?_)
  · -- then
    refine wpIn_seq ?_
    -- region 10 (cmp.go:53)
    refine wp_reg ([]) ([] ++ rs) [(0, true)] mixed (by kernel_rfl) (hT) ?_; intro w hT
    refine rd hf rfl (yl_assign rfl) rfl rfl ?_; intro a hf
    refine plan_nil ?_
    replace hf := hf.sel [4] (l' := [(4, _)]) rfl
    refine wpIn_ret ?_
    exact body_ret hf (L := []) hT rfl rfl ⟨by simp [retv, sgn, *], rfl⟩
  · -- else
    refine wpIn_skip ?_
    refine wpIn_seq ?_
    refine wpIn_seq ?_
    -- region 11 (cmp.go:55)
    refine wp_reg ([]) ([] ++ rs) [(0, true), (1, true), (2, true)] mixed (by kernel_rfl) (hT) ?_; intro w hT
    refine rd hf rfl (yl_move rfl) rfl rfl ?_; intro a hf
    refine rd hf rfl (yl_move rfl) rfl rfl ?_; intro a hf
    refine rd hf rfl (yl_cmp rfl rfl rfl) rfl rfl ?_; intro a hf
    refine plan_nil ?_
    replace hf := hf.sel [19] (l' := [(19, _)]) rfl
    refine wp_ifd hf rfl (fun h2 => ?_) (fun h2 => ?_)
    · -- then
      refine wpIn_seq ?_
      -- region 12 (cmp.go:56)
      refine wp_reg ([]) ([] ++ rs) [(0, true)] mixed (by kernel_rfl) (hT) ?_; intro w hT
      refine rd hf rfl (yl_assign rfl) rfl rfl ?_; intro a hf
      refine plan_nil ?_
      refine wpIn_ret ?_
      exact body_ret hf (L := []) hT rfl rfl ⟨by simp [retv, sgn, *], rfl⟩
    · -- else
      refine wpIn_skip ?_
      refine wpIn_seq ?_
      -- region 13 (cmp.go:58)
      refine wp_reg ([]) ([] ++ rs) [(0, true)] mixed (by kernel_rfl) (hT) ?_; intro w hT
      refine rd hf rfl (yl_assign rfl) rfl rfl ?_; intro a hf
      refine plan_nil ?_
      refine wpIn_ret ?_
      exact body_ret hf (L := []) hT rfl rfl ⟨by simp [retv, sgn, *], rfl⟩
theorem better_spec {e : Env} {w : World} {rs : List Part} (c d : Ch) (hT : Tot e w rs) : Spec Try.prog 80 #[encC c, encC d] e w rs (fun v L => v = .bool (decide (gt c d)) ∧ L = []) := by
  refine spec_body Try.func80 rfl Try.ntmps80 rfl rfl ?_
  intro a hf
  refine wpIn_seq ?_
  -- region 0 (best.go:17)
  refine wp_reg ([]) ([] ++ rs) [(0, false), (1, false), (2, true)] mixed (by kernel_rfl) (hT) ?_; intro w hT
  refine ef hf hT rfl rfl (ef_box rfl) rfl (l' := [(0, _), (1, _)]) rfl ?_; rintro a w v L ⟨b1, rfl, rfl⟩ hf hT
  refine ef hf hT rfl rfl (ef_box rfl) rfl (l' := [(2, _), (0, _), (1, _)]) rfl ?_; rintro a w v L ⟨b2, rfl, rfl⟩ hf hT
  refine rd hf rfl (yl_assign rfl) rfl rfl ?_; intro a hf
  refine plan_nil ?_
  replace hf := hf.sel [3, 2] (l' := [(3, _), (2, _)]) rfl
  refine wpIn_seq ?_
  -- region 1 (best.go:19)
  refine wp_reg ([]) ([_, _] ++ rs) [(0, true), (1, true), (2, true), (3, true), (5, true), (6, true), (7, true), (8, true), (10, true), (11, true), (12, true), (13, true), (4, false), (9, false), (14, false), (15, false), (16, false), (17, true), (18, true)] mixed (by kernel_rfl) (hT) ?_; intro w hT
  refine rd hf rfl (yl_faddr Try.underlying139 rfl rfl sz_2 (k := 1) rfl) rfl rfl ?_; intro a hf
  refine rd hf rfl (yl_load Try.underlying2 rfl rfl ⟨_, .tail _ (.head _), _, _, _, pt_self _ _, rfl⟩) rfl rfl ?_; intro a hf
  refine rd hf rfl (yl_faddr Try.underlying139 rfl rfl sz_2 (k := 1) rfl) rfl rfl ?_; intro a hf
  refine rd hf rfl (yl_load Try.underlying2 rfl rfl ⟨_, .head _, _, _, _, pt_self _ _, rfl⟩) rfl rfl ?_; intro a hf
  refine rd hf rfl (yl_faddr Try.underlying139 rfl rfl sz_2 (k := 2) rfl) rfl rfl ?_; intro a hf
  refine rd hf rfl (yl_load Try.underlying2 rfl rfl ⟨_, .head _, _, _, _, pt_self _ _, rfl⟩) rfl rfl ?_; intro a hf
  refine rd hf rfl (yl_faddr Try.underlying139 rfl rfl sz_2 (k := 2) rfl) rfl rfl ?_; intro a hf
  refine rd hf rfl (yl_load Try.underlying2 rfl rfl ⟨_, .tail _ (.head _), _, _, _, pt_self _ _, rfl⟩) rfl rfl ?_; intro a hf
  refine rd hf rfl (yl_faddr Try.underlying139 rfl rfl sz_87 (k := 0) rfl) rfl rfl ?_; intro a hf
  refine rd hf rfl (yl_load Try.underlying87 rfl rfl ⟨_, .tail _ (.head _), _, _, _, pt_self _ _, rfl⟩) rfl rfl ?_; intro a hf
  refine rd hf rfl (yl_faddr Try.underlying139 rfl rfl sz_87 (k := 0) rfl) rfl rfl ?_; intro a hf
  refine rd hf rfl (yl_load Try.underlying87 rfl rfl ⟨_, .head _, _, _, _, pt_self _ _, rfl⟩) rfl rfl ?_; intro a hf
  refine ef_call hf rfl (wanted_none _ _ rfl) rfl rfl (by kernel_rfl) (Spec.frame (L2 := []) (compare_int64 _ _ hT)) rfl (l' := [(18, _), (17, _), (16, _), (15, _), (13, _), (12, _), (11, _), (10, _), (8, _), (7, _), (6, _), (5, _), (3, _), (2, _)]) rfl ?_; rintro a w v L ⟨L1, ⟨rfl, rfl⟩, rfl⟩ hf hT
  refine ef_call hf rfl (wanted_none _ _ rfl) rfl rfl (by kernel_rfl) (Spec.frame (L2 := []) (compare_int64 _ _ hT)) rfl (l' := [(9, _), (18, _), (17, _), (16, _), (15, _), (13, _), (12, _), (11, _), (10, _), (8, _), (7, _), (6, _), (5, _), (3, _), (2, _)]) rfl ?_; rintro a w v L ⟨L1, ⟨rfl, rfl⟩, rfl⟩ hf hT
  refine ef_call hf rfl (wanted_none _ _ rfl) rfl rfl (by kernel_rfl) (Spec.frame (L2 := []) (compare_u32 _ _ hT)) rfl (l' := [(14, _), (9, _), (18, _), (17, _), (16, _), (15, _), (13, _), (12, _), (11, _), (10, _), (8, _), (7, _), (6, _), (5, _), (3, _), (2, _)]) rfl ?_; rintro a w v L ⟨L1, ⟨rfl, rfl⟩, rfl⟩ hf hT
  refine ef hf hT rfl rfl (ef_buildSlice (E := encI) (xs := [sgn c.w d.w, sgn d.s c.s, sgn (c.b : Int) (d.b : Int)]) rfl rfl Try.underlying82 zs_3 rfl (by decide) rfl (by decide)) rfl (l' := [(19, _), (14, _), (9, _), (18, _), (17, _), (16, _), (15, _), (13, _), (12, _), (11, _), (10, _), (8, _), (7, _), (6, _), (5, _), (3, _), (2, _)]) rfl ?_; rintro a w v1 L ⟨b3, p1, hvp1, hp1, rfl⟩ hf hT
  refine ef_call hf rfl (wanted_none _ _ rfl) rfl rfl (by kernel_rfl) (Spec.frame (L2 := [_]) (Or_int [sgn c.w d.w, sgn d.s c.s, sgn (c.b : Int) (d.b : Int)] v1 (hp1.els (.head _)) hT)) rfl (l' := [(20, _), (19, _), (14, _), (9, _), (18, _), (17, _), (16, _), (15, _), (13, _), (12, _), (11, _), (10, _), (8, _), (7, _), (6, _), (5, _), (3, _), (2, _)]) rfl ?_; rintro a w v L ⟨L1, ⟨rfl, rfl⟩, rfl⟩ hf hT
  refine rd hf rfl (yl_cmp rfl rfl rfl) rfl rfl ?_; intro a hf
  refine rd hf rfl (yl_assign rfl) rfl rfl ?_; intro a hf
  refine plan_nil ?_
  replace hf := hf.sel [4] (l' := [(4, _)]) rfl
  refine wpIn_ret ?_
  exact body_ret hf (L := []) hT.tail.tail.tail rfl rfl ⟨congrArg Value.bool (decide_eq_decide.2 (gt_or c d)), rfl⟩
theorem Best1_spec {e : Env} {w : World} {rs : List Part} (x : Pcl) (hT : Tot e w rs) : Spec Try.prog 74 #[encP x] e w rs (fun v L => v = .bool (decide ((x.sz < 1 ∨ 16777216 < x.sz) ∨ (x.wo < 0 ∨ 1048576 < x.wo))) ∧ L = []) := by
  refine spec_body Try.func74 rfl Try.ntmps74 rfl rfl ?_
  intro a hf
  refine wpIn_seq ?_
  -- region 0 (best.go:43)
  refine wp_reg ([]) ([] ++ rs) [(0, false), (1, true)] mixed (by kernel_rfl) (hT) ?_; intro w hT
  refine ef hf hT rfl rfl (ef_box rfl) rfl (l' := [(0, _)]) rfl ?_; rintro a w v L ⟨b1, rfl, rfl⟩ hf hT
  refine rd hf rfl (yl_assign rfl) rfl rfl ?_; intro a hf
  refine plan_nil ?_
  refine wpIn_seq ?_
  -- region 1 (best.go:44)
  refine wp_reg ([]) ([_] ++ rs) [(0, true), (1, true), (2, false), (3, true), (4, true), (5, true), (6, false), (7, true), (8, true)] mixed (by kernel_rfl) (hT) ?_; intro w hT
  refine rd hf rfl (yl_faddr Try.underlying90 rfl rfl sz_2 (k := 0) rfl) rfl rfl ?_; intro a hf
  refine rd hf rfl (yl_load Try.underlying2 rfl rfl ⟨_, .head _, _, _, _, pt_self _ _, rfl⟩) rfl rfl ?_; intro a hf
  refine ef_call hf rfl (wanted_none _ _ rfl) rfl rfl (by kernel_rfl) (Spec.frame (L2 := []) (outside_spec _ _ _ hT)) rfl (l' := [(4, _), (3, _), (2, _), (1, _), (0, _)]) rfl ?_; rintro a w v L ⟨L1, ⟨rfl, rfl⟩, rfl⟩ hf hT
  refine rd hf rfl (yl_move rfl) rfl rfl ?_; intro a hf
  by_cases hg3 : x.sz < 1 ∨ 16777216 < x.sz
  · have hgT1 : decide (x.sz < 1 ∨ 16777216 < x.sz) = true := by simpa using hg3
    refine rdF hf rfl rfl rfl rfl (by first | exact hgT1 | simp [hgT1]) rfl (l' := [(7, _), (6, _), (5, _), (4, _), (3, _), (2, _), (1, _), (0, _)]) rfl ?_; intro a hf
    refine rdF hf rfl rfl rfl rfl (by first | exact hgT1 | simp [hgT1]) rfl (l' := [(8, _), (7, _), (6, _), (5, _), (4, _), (3, _), (2, _), (1, _), (0, _)]) rfl ?_; intro a hf
    refine efF hf rfl rfl rfl rfl (by first | exact hgT1 | simp [hgT1]) hT.allR (by simp [Nat.blt]) (l' := [(9, _), (8, _), (7, _), (6, _), (5, _), (4, _), (3, _), (2, _), (1, _), (0, _)]) rfl ?_; intro a hf
    refine rd hf rfl (yl_pickTT rfl hgT1 rfl) rfl rfl ?_; intro a hf
    refine rw_ hf rfl (yl_assign rfl) rfl (l' := [(2, _), (10, _), (9, _), (8, _), (7, _), (6, _), (5, _), (4, _), (3, _), (1, _), (0, _)]) rfl ?_; intro a hf
    refine plan_nil ?_
    replace hf := hf.sel [2] (l' := [(2, _)]) rfl
    refine wpIn_ret ?_
    exact body_ret hf (L := []) hT.tail rfl rfl ⟨by simp [retv, *], rfl⟩
  · have hgT1 : decide (x.sz < 1 ∨ 16777216 < x.sz) = false := by simpa using hg3
    refine rdT hf rfl rfl rfl rfl (by first | exact hgT1 | simp [hgT1]) (yl_faddr Try.underlying90 rfl rfl sz_2 (k := 1) rfl) rfl (l' := [(7, _), (6, _), (5, _), (4, _), (3, _), (2, _), (1, _), (0, _)]) rfl ?_; intro a hf
    refine rdT hf rfl rfl rfl rfl (by first | exact hgT1 | simp [hgT1]) (yl_load Try.underlying2 rfl rfl ⟨_, .head _, _, _, _, pt_self _ _, rfl⟩) rfl (l' := [(8, _), (7, _), (6, _), (5, _), (4, _), (3, _), (2, _), (1, _), (0, _)]) rfl ?_; intro a hf
    refine ef_call hf rfl (by rw [wanted_some hf rfl rfl rfl rfl]; first | exact beqT hgT1 | simp [hgT1]) rfl rfl (by kernel_rfl) (Spec.frame (L2 := []) (outside_spec _ _ _ hT)) rfl (l' := [(8, _), (7, _), (6, _), (5, _), (4, _), (3, _), (2, _), (1, _), (0, _)]) rfl ?_; rintro a w v L ⟨L1, ⟨rfl, rfl⟩, rfl⟩ hf hT
    refine rd hf rfl (yl_pickFF rfl hgT1 rfl) rfl rfl ?_; intro a hf
    refine rw_ hf rfl (yl_assign rfl) rfl (l' := [(2, _), (10, _), (9, _), (8, _), (7, _), (6, _), (5, _), (4, _), (3, _), (1, _), (0, _)]) rfl ?_; intro a hf
    refine plan_nil ?_
    replace hf := hf.sel [2] (l' := [(2, _)]) rfl
    refine wpIn_ret ?_
    exact body_ret hf (L := []) hT.tail rfl rfl ⟨by simp [retv, *], rfl⟩
theorem Best2_spec {e : Env} {w : World} {rs : List Part} (c d : Ch) (hT : Tot e w rs) : Spec Try.prog 77 #[encC c, encC d] e w rs (fun v L => v = .int .i64 (sgn c.s d.s) ∧ L = []) := by
  refine spec_body Try.func77 rfl Try.ntmps77 rfl rfl ?_
  intro a hf
  refine wpIn_seq ?_
  -- region 0 (best.go:54)
  refine wp_reg ([]) ([] ++ rs) [(0, false), (1, false), (2, true)] mixed (by kernel_rfl) (hT) ?_; intro w hT
  refine ef hf hT rfl rfl (ef_box rfl) rfl (l' := [(0, _), (1, _)]) rfl ?_; rintro a w v L ⟨b1, rfl, rfl⟩ hf hT
  refine ef hf hT rfl rfl (ef_box rfl) rfl (l' := [(2, _), (0, _), (1, _)]) rfl ?_; rintro a w v L ⟨b2, rfl, rfl⟩ hf hT
  refine rd hf rfl (yl_assign rfl) rfl rfl ?_; intro a hf
  refine plan_nil ?_
  replace hf := hf.sel [3, 2] (l' := [(3, _), (2, _)]) rfl
  refine wpIn_seq ?_
  -- region 1 (best.go:54)
  refine wp_reg ([]) ([_, _] ++ rs) [(0, true), (1, true), (2, true), (3, true), (4, false), (5, true)] mixed (by kernel_rfl) (hT) ?_; intro w hT
  refine rd hf rfl (yl_faddr Try.underlying139 rfl rfl sz_2 (k := 2) rfl) rfl rfl ?_; intro a hf
  refine rd hf rfl (yl_load Try.underlying2 rfl rfl ⟨_, .tail _ (.head _), _, _, _, pt_self _ _, rfl⟩) rfl rfl ?_; intro a hf
  refine rd hf rfl (yl_faddr Try.underlying139 rfl rfl sz_2 (k := 2) rfl) rfl rfl ?_; intro a hf
  refine rd hf rfl (yl_load Try.underlying2 rfl rfl ⟨_, .head _, _, _, _, pt_self _ _, rfl⟩) rfl rfl ?_; intro a hf
  refine ef_call hf rfl (wanted_none _ _ rfl) rfl rfl (by kernel_rfl) (Spec.frame (L2 := []) (compare_int64 _ _ hT)) rfl (l' := [(8, _), (7, _), (6, _), (5, _), (3, _), (2, _)]) rfl ?_; rintro a w v L ⟨L1, ⟨rfl, rfl⟩, rfl⟩ hf hT
  refine rd hf rfl (yl_assign rfl) rfl rfl ?_; intro a hf
  refine plan_nil ?_
  replace hf := hf.sel [4] (l' := [(4, _)]) rfl
  refine wpIn_ret ?_
  exact body_ret hf (L := []) hT.tail.tail rfl rfl ⟨rfl, rfl⟩
theorem Best3_spec {e : Env} {w : World} {rs : List Part} (c : Ch) (m : Int) (hT : Tot e w rs) : Spec Try.prog 82 #[encC c, .int .i64 m] e w rs (fun v L => v = .int .i64 (if c.s ≤ m then -1 else 1) ∧ L = []) := by
  refine spec_body Try.func82 rfl Try.ntmps82 rfl rfl ?_
  intro a hf
  refine wpIn_seq ?_
  -- region 0 (best.go:64)
  refine wp_reg ([]) ([] ++ rs) [(0, false), (1, true)] mixed (by kernel_rfl) (hT) ?_; intro w hT
  refine ef hf hT rfl rfl (ef_box rfl) rfl (l' := [(0, _), (1, _)]) rfl ?_; rintro a w v L ⟨b1, rfl, rfl⟩ hf hT
  refine rd hf rfl (yl_assign rfl) rfl rfl ?_; intro a hf
  refine plan_nil ?_
  refine wpIn_seq ?_
  refine wpIn_seq ?_
  -- region 1 (best.go:65)
  refine wp_reg ([]) ([_] ++ rs) [(0, true), (1, true), (2, true), (3, true)] mixed (by kernel_rfl) (hT) ?_; intro w hT
  refine rd hf rfl (yl_faddr Try.underlying139 rfl rfl sz_2 (k := 2) rfl) rfl rfl ?_; intro a hf
  refine rd hf rfl (yl_load Try.underlying2 rfl rfl ⟨_, .head _, _, _, _, pt_self _ _, rfl⟩) rfl rfl ?_; intro a hf
  refine rd hf rfl (yl_move rfl) rfl rfl ?_; intro a hf
  refine rd hf rfl (yl_cmp rfl rfl rfl) rfl rfl ?_; intro a hf
  refine plan_nil ?_
  replace hf := hf.sel [8] (l' := [(8, _)]) rfl
  refine wp_ifd hf rfl (fun hle => ?_) (fun hle => ?_)
  · -- then
    refine wpIn_seq ?_
    -- region 2 (best.go:66)
    refine wp_reg ([]) ([_] ++ rs) [(0, true)] mixed (by kernel_rfl) (hT) ?_; intro w hT
    refine rd hf rfl (yl_assign rfl) rfl rfl ?_; intro a hf
    refine plan_nil ?_
    refine wpIn_ret ?_
    exact body_ret hf (L := []) hT.tail rfl rfl ⟨by simp [retv, *], rfl⟩
  · -- else
    refine wpIn_skip ?_
    refine wpIn_seq ?_
    -- region 3 (best.go:68)
    refine wp_reg ([]) ([_] ++ rs) [(0, true)] mixed (by kernel_rfl) (hT) ?_; intro w hT
    refine rd hf rfl (yl_assign rfl) rfl rfl ?_; intro a hf
    refine plan_nil ?_
    refine wpIn_ret ?_
    exact body_ret hf (L := []) hT.tail rfl rfl ⟨by simp [retv, *], rfl⟩
end Go.Proofs.Ytjhbgciocffihaa
