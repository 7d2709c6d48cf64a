-- written by gen.py out of walks texts of my own
import Derived.Test.YtjhbgciocffihaaB10
set_option linter.unusedVariables false
set_option linter.unusedSimpArgs false
set_option maxHeartbeats 4000000
namespace Go.Proofs.Ytjhbgciocffihaa
theorem Examples_spec {e : Env} {w : World} {rs : List Part}  (hT : Tot e w rs) : Spec Try.prog 44 #[] e w rs (fun v L => ∃ X, Sl encRec 31 v [x1, x2, x3] X ∧ L = [X]) := by
  refine spec_body Try.func44 rfl Try.ntmps44 rfl rfl ?_
  intro a hf
  refine wpIn_seq ?_
  -- region 0 (law.go:11)
  refine wp_reg ([]) ([] ++ rs) [(0, true)] mixed (by kernel_rfl) (hT) ?_; intro w hT
  refine rd hf rfl (yl_assign rfl) rfl rfl ?_; intro a hf
  refine plan_nil ?_
  refine wpIn_seq ?_
  -- region 1 (law.go:12)
  refine wp_reg ([]) ([] ++ rs) [(0, true), (1, true), (2, true), (3, false), (4, true)] mixed (by kernel_rfl) (hT) ?_; intro w hT
  refine rd hf rfl (yl_build rfl Try.underlying31 zr_31 (places := [(0, 1), (1, 1), (2, 1), (3, 1), (4, 1)]) (by kernel_rfl) (by kernel_rfl) (out := x1.cells) rfl) rfl rfl ?_; intro a hf
  refine rd hf rfl (yl_build rfl Try.underlying31 zr_31 (places := [(0, 1), (1, 1), (2, 1), (3, 1), (4, 1)]) (by kernel_rfl) (by kernel_rfl) (out := x2.cells) rfl) rfl rfl ?_; intro a hf
  refine rd hf rfl (yl_build rfl Try.underlying31 zr_31 (places := [(0, 1), (1, 1), (2, 1), (3, 1), (4, 1)]) (by kernel_rfl) (by kernel_rfl) (out := x3.cells) rfl) rfl rfl ?_; intro a hf
  refine ef hf hT rfl rfl (ef_buildSlice (E := encRec) (xs := [x1, x2, x3]) rfl rfl Try.underlying70 zs_31 rfl (by decide) rfl (by decide)) rfl (l' := [(3, _), (2, _), (1, _), (0, _)]) rfl ?_; rintro a w l1 L ⟨b1, p1, hvp1, hp1, rfl⟩ hf hT
  refine rw_ hf rfl (yl_assign rfl) rfl (l' := [(0, _), (4, _), (3, _), (2, _), (1, _)]) rfl ?_; intro a hf
  refine plan_nil ?_
  replace hf := hf.sel [0] (l' := [(0, _)]) rfl
  refine wpIn_ret ?_
  exact body_ret hf (L := [_]) (hT) rfl rfl ⟨_, hp1, rfl⟩
theorem mem5 {α : Type} {x a b c d e : α} (h : x ∈ [a, b, c, d, e]) : x = a ∨ x = b ∨ x = c ∨ x = d ∨ x = e := by simpa using h
theorem fine_spec {e : Env} {w : World} {rs : List Part}  (hT : Tot e w rs) : Spec Try.prog 11 #[] e w rs (fun v L => v = .bool true ∧ L = []) := by
  refine spec_body Try.func11 rfl Try.ntmps11 rfl rfl ?_
  intro a hf
  refine wpIn_seq ?_
  -- region 0 (law.go:16)
  refine wp_reg ([]) ([] ++ rs) [(0, true)] mixed (by kernel_rfl) (hT) ?_; intro w hT
  refine rd hf rfl (yl_assign rfl) rfl rfl ?_; intro a hf
  refine plan_nil ?_
  refine wpIn_seq ?_
  -- region 1 (law.go:17)
  refine wp_reg ([]) ([] ++ rs) [(0, false), (1, true), (2, true), (3, true), (4, true), (5, true)] mixed (by kernel_rfl) (hT) ?_; intro w hT
  refine ef_call hf rfl (wanted_none _ _ rfl) rfl rfl (by kernel_rfl) (Spec.frame (L2 := []) ((New_spec (100) hT).mono (fun v L h => by rw [if_pos (by decide)] at h; exact h))) rfl (l' := [(0, _)]) rfl ?_; rintro a w v L ⟨L1, ⟨b, rfl, hB0⟩, rfl⟩ hf hT
  obtain ⟨y0, y1, y2, y3, y4, rfl⟩ := hB0.five
  refine rd hf rfl (yl_move rfl) rfl rfl ?_; intro a hf
  refine rd hf rfl (yl_extract rfl rfl) rfl rfl ?_; intro a hf
  refine rd hf rfl (yl_extract rfl rfl) rfl rfl ?_; intro a hf
  refine rd hf rfl (yl_assign rfl) rfl rfl ?_; intro a hf
  refine rd hf rfl (yl_assign rfl) rfl rfl ?_; intro a hf
  refine plan_nil ?_
  replace hf := hf.sel [2, 1] (l' := [(2, _), (1, _)]) rfl
  refine wpIn_seq ?_
  refine wpIn_seq ?_
  -- region 2 (law.go:18)
  refine wp_reg ([]) ([_, _, _, _, _] ++ rs) [(0, true), (1, true), (2, true), (3, true), (4, true), (5, true)] mixed (by kernel_rfl) (hT) ?_; intro w hT
  refine rd hf rfl (yl_move rfl) rfl rfl ?_; intro a hf
  refine rd hf rfl (yl_cmp rfl rfl rfl) rfl rfl ?_; intro a hf
  refine rd hf rfl (yl_move rfl) rfl rfl ?_; intro a hf
  refine rdT hf rfl rfl rfl rfl (rfl) (yl_move rfl) rfl (l' := [(15, _), (14, _), (13, _), (12, _), (2, _), (1, _)]) rfl ?_; intro a hf
  refine rdT hf rfl rfl rfl rfl (rfl) (yl_ptrNil rfl rfl Try.underlying25 rfl) rfl (l' := [(16, _), (15, _), (14, _), (13, _), (12, _), (2, _), (1, _)]) rfl ?_; intro a hf
  refine rd hf rfl (yl_pickFF rfl rfl rfl) rfl rfl ?_; intro a hf
  refine plan_nil ?_
  replace hf := hf.sel [17, 1] (l' := [(17, _), (1, _)]) rfl
  refine wp_ifFF hf rfl (rfl) ?_
  refine wpIn_skip ?_
  refine wpIn_seq ?_
  -- region 4 (law.go:21)
  refine wp_reg ([]) ([_, _, _, _, _] ++ rs) [(0, false), (1, true)] mixed (by kernel_rfl) (hT) ?_; intro w hT
  refine ef_call hf rfl (wanted_none _ _ rfl) rfl rfl (by kernel_rfl) (Spec.frame (L2 := []) (Examples_spec hT)) rfl (l' := [(17, _), (1, _)]) rfl ?_; rintro a w lx L ⟨L1, ⟨E, hE, rfl⟩, rfl⟩ hf hT
  refine rd hf rfl (yl_assign rfl) rfl rfl ?_; intro a hf
  refine plan_nil ?_
  refine wpIn_seq ?_
  -- region 5 (law.go:22)
  refine wp_reg ([_, _, _, _, _]) ([_] ++ rs) [(0, true), (1, true), (2, true), (3, true), (4, false), (5, true), (6, true), (7, true), (8, true)] mixed (by kernel_rfl) (hT.brings [5, 5, 5, 5, 5]) ?_; intro w hT
  refine rd hf rfl (yl_move rfl) rfl rfl ?_; intro a hf
  refine rd hf rfl (yl_move rfl) rfl rfl ?_; intro a hf
  refine rd hf rfl (yl_indexE rfl rfl Try.underlying70 sz_31 (hE.els (.head _)) (by decide) (by decide)) rfl rfl ?_; intro a hf
  refine rd hf rfl (yl_loadA Try.underlying31 rfl sz_31 rfl ((hE.els (.head _)).row (show [x1, x2, x3][0]? = some x1 from rfl)) rfl) rfl rfl ?_; intro a hf
  replace hT : Tot _ _ ([_, _, _, _, _] ++ ([_] ++ rs)) := hT.bring 4
  replace hT : Tot _ _ ([_, _, _, _, _] ++ ([_] ++ rs)) := hT.bring 4
  replace hT : Tot _ _ ([_, _, _, _, _] ++ ([_] ++ rs)) := hT.bring 4
  replace hT : Tot _ _ ([_, _, _, _, _] ++ ([_] ++ rs)) := hT.bring 4
  replace hT : Tot _ _ ([_, _, _, _, _] ++ ([_] ++ rs)) := hT.bring 4
  refine ef_call hf rfl (wanted_none _ _ rfl) rfl rfl (by kernel_rfl) (Spec.frame (L2 := []) (Put5_spec b S0 _ hB0 (inv0 100 (by decide)) (by decide) x1 hT)) rfl (l' := [(23, _), (22, _), (21, _), (20, _), (3, _), (18, _), (17, _), (1, _)]) rfl ?_; rintro a w v L ⟨L1, ⟨tp, dp, ep, q1, Xp, Lbp, rfl, hDp, hBp, rfl, hRp⟩, rfl⟩ hf hT
  have hIp := hRp.inv (inv0 100 (by decide))
  obtain ⟨rfl, rfl, rfl⟩ := fine1 hRp
  obtain ⟨y0, y1, y2, y3, y4, rfl⟩ := hBp.five
  refine rd hf rfl (yl_move rfl) rfl rfl ?_; intro a hf
  refine rd hf rfl (yl_extract rfl rfl) rfl rfl ?_; intro a hf
  refine rd hf rfl (yl_extract rfl rfl) rfl rfl ?_; intro a hf
  refine rd hf rfl (yl_assign rfl) rfl rfl ?_; intro a hf
  refine plan_nil ?_
  replace hf := hf.sel [2, 3, 1] (l' := [(2, _), (3, _), (1, _)]) rfl
  refine wpIn_seq ?_
  -- region 6 (law.go:23)
  refine wp_reg ([_, _, _, _, _]) ([_, _] ++ rs) [(0, true), (1, true), (2, true), (3, true), (4, false), (5, true), (6, true), (7, true), (8, true), (9, true)] mixed (by kernel_rfl) (hT.brings [5, 5, 5, 5, 5]) ?_; intro w hT
  refine rd hf rfl (yl_move rfl) rfl rfl ?_; intro a hf
  refine rd hf rfl (yl_move rfl) rfl rfl ?_; intro a hf
  refine rd hf rfl (yl_indexE rfl rfl Try.underlying70 sz_31 (hE.els (.tail _ (.head _))) (by decide) (by decide)) rfl rfl ?_; intro a hf
  refine rd hf rfl (yl_loadA Try.underlying31 rfl sz_31 rfl ((hE.els (.tail _ (.head _))).row (show [x1, x2, x3][1]? = some x2 from rfl)) rfl) rfl rfl ?_; intro a hf
  replace hT : Tot _ _ ([_, _, _, _, _] ++ ([_, _] ++ rs)) := hT.bring 4
  replace hT : Tot _ _ ([_, _, _, _, _] ++ ([_, _] ++ rs)) := hT.bring 4
  replace hT : Tot _ _ ([_, _, _, _, _] ++ ([_, _] ++ rs)) := hT.bring 4
  replace hT : Tot _ _ ([_, _, _, _, _] ++ ([_, _] ++ rs)) := hT.bring 4
  replace hT : Tot _ _ ([_, _, _, _, _] ++ ([_, _] ++ rs)) := hT.bring 4
  refine ef_call hf rfl (wanted_none _ _ rfl) rfl rfl (by kernel_rfl) (Spec.frame (L2 := []) (Put5_spec b S1 _ hBp hIp (by decide) x2 hT)) rfl (l' := [(31, _), (30, _), (29, _), (28, _), (2, _), (3, _), (1, _)]) rfl ?_; rintro a w v L ⟨L1, ⟨tq, dq, eq, q2, Xq, Lbq, rfl, hDq, hBq, rfl, hRq⟩, rfl⟩ hf hT
  have hIq := hRq.inv hIp
  obtain ⟨rfl, rfl, rfl⟩ := fine2 hRq
  obtain ⟨y0, y1, y2, y3, y4, rfl⟩ := hBq.five
  refine rd hf rfl (yl_move rfl) rfl rfl ?_; intro a hf
  refine rd hf rfl (yl_extract rfl rfl) rfl rfl ?_; intro a hf
  refine rd hf rfl (yl_extract rfl rfl) rfl rfl ?_; intro a hf
  refine rd hf rfl (yl_assign rfl) rfl rfl ?_; intro a hf
  refine rd hf rfl (yl_assign rfl) rfl rfl ?_; intro a hf
  refine plan_nil ?_
  replace hf := hf.sel [5, 2, 3, 1] (l' := [(5, _), (2, _), (3, _), (1, _)]) rfl
  refine wpIn_seq ?_
  -- region 7 (law.go:24)
  refine wp_reg ([_, _, _, _, _]) ([_, _, _] ++ rs) [(0, true), (1, true), (2, true), (3, true), (4, false), (5, true), (6, true), (7, true), (8, true), (9, true)] mixed (by kernel_rfl) (hT.brings [5, 5, 5, 5, 5]) ?_; intro w hT
  refine rd hf rfl (yl_move rfl) rfl rfl ?_; intro a hf
  refine rd hf rfl (yl_move rfl) rfl rfl ?_; intro a hf
  refine rd hf rfl (yl_indexE rfl rfl Try.underlying70 sz_31 (hE.els (.tail _ (.tail _ (.head _)))) (by decide) (by decide)) rfl rfl ?_; intro a hf
  refine rd hf rfl (yl_loadA Try.underlying31 rfl sz_31 rfl ((hE.els (.tail _ (.tail _ (.head _)))).row (show [x1, x2, x3][2]? = some x3 from rfl)) rfl) rfl rfl ?_; intro a hf
  replace hT : Tot _ _ ([_, _, _, _, _] ++ ([_, _, _] ++ rs)) := hT.bring 4
  replace hT : Tot _ _ ([_, _, _, _, _] ++ ([_, _, _] ++ rs)) := hT.bring 4
  replace hT : Tot _ _ ([_, _, _, _, _] ++ ([_, _, _] ++ rs)) := hT.bring 4
  replace hT : Tot _ _ ([_, _, _, _, _] ++ ([_, _, _] ++ rs)) := hT.bring 4
  replace hT : Tot _ _ ([_, _, _, _, _] ++ ([_, _, _] ++ rs)) := hT.bring 4
  refine ef_call hf rfl (wanted_none _ _ rfl) rfl rfl (by kernel_rfl) (Spec.frame (L2 := []) (Put5_spec b S2 _ hBq hIq (by decide) x3 hT)) rfl (l' := [(39, _), (38, _), (37, _), (36, _), (5, _), (2, _), (3, _), (1, _)]) rfl ?_; rintro a w v L ⟨L1, ⟨tr, dr, er, q3, Xr, Lbr, rfl, hDr, hBr, rfl, hRr⟩, rfl⟩ hf hT
  have hIr := hRr.inv hIq
  obtain ⟨rfl, rfl, rfl⟩ := fine3 hRr
  obtain ⟨y0, y1, y2, y3, y4, rfl⟩ := hBr.five
  refine rd hf rfl (yl_move rfl) rfl rfl ?_; intro a hf
  refine rd hf rfl (yl_extract rfl rfl) rfl rfl ?_; intro a hf
  refine rd hf rfl (yl_extract rfl rfl) rfl rfl ?_; intro a hf
  refine rd hf rfl (yl_assign rfl) rfl rfl ?_; intro a hf
  refine rd hf rfl (yl_assign rfl) rfl rfl ?_; intro a hf
  refine plan_nil ?_
  replace hf := hf.sel [7, 6, 5, 2, 1] (l' := [(7, _), (6, _), (5, _), (2, _), (1, _)]) rfl
  refine wpIn_seq ?_
  -- region 8 (law.go:25)
  refine wp_reg ([]) ([_, _, _, _, _, _, _, _, _] ++ rs) [(0, true), (1, true), (2, true), (3, true), (4, true), (5, true), (6, true), (7, true), (8, true), (9, true), (10, true), (11, true), (12, true), (13, true), (14, true), (15, true), (16, true), (17, true), (18, true), (19, false), (20, true), (21, true), (22, true)] mixed (by kernel_rfl) (hT) ?_; intro w hT
  refine rd hf rfl (yl_move rfl) rfl rfl ?_; intro a hf
  refine rd hf rfl (yl_move rfl) rfl rfl ?_; intro a hf
  refine rd hf rfl (yl_add rfl rfl (by unfold inI64; omega)) rfl rfl ?_; intro a hf
  refine rd hf rfl (yl_move rfl) rfl rfl ?_; intro a hf
  refine rd hf rfl (yl_add rfl rfl (by unfold inI64; omega)) rfl rfl ?_; intro a hf
  refine rd hf rfl (yl_cmp rfl rfl rfl) rfl rfl ?_; intro a hf
  refine rd hf rfl (yl_move rfl) rfl rfl ?_; intro a hf
  refine rdT hf rfl rfl rfl rfl (rfl) (yl_move rfl) rfl (l' := [(50, _), (49, _), (48, _), (47, _), (46, _), (45, _), (44, _), (43, _), (7, _), (6, _), (5, _), (2, _), (1, _)]) rfl ?_; intro a hf
  refine rdT hf rfl rfl rfl rfl (rfl) (yl_lenE rfl Try.underlying37 (hDr.els (.head _))) rfl (l' := [(51, _), (50, _), (49, _), (48, _), (47, _), (46, _), (45, _), (44, _), (43, _), (7, _), (6, _), (5, _), (2, _), (1, _)]) rfl ?_; intro a hf
  refine rdT hf rfl rfl rfl rfl (rfl) (yl_cmp rfl rfl rfl) rfl (l' := [(52, _), (51, _), (50, _), (49, _), (48, _), (47, _), (46, _), (45, _), (44, _), (43, _), (7, _), (6, _), (5, _), (2, _), (1, _)]) rfl ?_; intro a hf
  refine rd hf rfl (yl_pickTT rfl rfl rfl) rfl rfl ?_; intro a hf
  refine rd hf rfl (yl_move rfl) rfl rfl ?_; intro a hf
  refine rdT hf rfl rfl rfl rfl (rfl) (yl_move rfl) rfl (l' := [(55, _), (54, _), (53, _), (52, _), (51, _), (50, _), (49, _), (48, _), (47, _), (46, _), (45, _), (44, _), (43, _), (7, _), (6, _), (5, _), (2, _), (1, _)]) rfl ?_; intro a hf
  refine rdT hf rfl rfl rfl rfl (rfl) (yl_indexE rfl rfl Try.underlying37 sz_2 (hDr.els (.head _)) (by decide) (by decide)) rfl (l' := [(56, _), (55, _), (54, _), (53, _), (52, _), (51, _), (50, _), (49, _), (48, _), (47, _), (46, _), (45, _), (44, _), (43, _), (7, _), (6, _), (5, _), (2, _), (1, _)]) rfl ?_; intro a hf
  refine rdT hf rfl rfl rfl rfl (rfl) (yl_load Try.underlying2 rfl rfl ((hDr.els (.head _)).cell (show ([2] : List Int)[0]? = some 2 from rfl) (f := 0) rfl)) rfl (l' := [(57, _), (56, _), (55, _), (54, _), (53, _), (52, _), (51, _), (50, _), (49, _), (48, _), (47, _), (46, _), (45, _), (44, _), (43, _), (7, _), (6, _), (5, _), (2, _), (1, _)]) rfl ?_; intro a hf
  refine rdT hf rfl rfl rfl rfl (rfl) (yl_cmp rfl rfl rfl) rfl (l' := [(58, _), (57, _), (56, _), (55, _), (54, _), (53, _), (52, _), (51, _), (50, _), (49, _), (48, _), (47, _), (46, _), (45, _), (44, _), (43, _), (7, _), (6, _), (5, _), (2, _), (1, _)]) rfl ?_; intro a hf
  refine rd hf rfl (yl_pickTT rfl rfl rfl) rfl rfl ?_; intro a hf
  refine rd hf rfl (yl_move rfl) rfl rfl ?_; intro a hf
  refine rdT hf rfl rfl rfl rfl (rfl) (yl_move rfl) rfl (l' := [(61, _), (60, _), (59, _), (58, _), (57, _), (56, _), (55, _), (54, _), (53, _), (52, _), (51, _), (50, _), (49, _), (48, _), (47, _), (46, _), (45, _), (44, _), (43, _), (7, _), (6, _), (5, _), (2, _), (1, _)]) rfl ?_; intro a hf
  refine ef_call hf rfl (by rw [wanted_some hf rfl rfl rfl rfl]; first | rfl | simp | decide) rfl rfl (by kernel_rfl) (Spec.frame (L2 := []) (Used_spec b S3 (hBr.inn (fun x hx => by rcases mem5 hx with rfl | rfl | rfl | rfl | rfl; exact .tail _ (.head _); exact .tail _ (.tail _ (.head _)); exact .tail _ (.tail _ (.tail _ (.head _))); exact .tail _ (.tail _ (.tail _ (.tail _ (.head _)))); exact .tail _ (.tail _ (.tail _ (.tail _ (.tail _ (.head _))))))) hT)) rfl (l' := [(61, _), (60, _), (59, _), (58, _), (57, _), (56, _), (55, _), (54, _), (53, _), (52, _), (51, _), (50, _), (49, _), (48, _), (47, _), (46, _), (45, _), (44, _), (43, _), (7, _), (6, _), (5, _), (2, _), (1, _)]) rfl ?_; rintro a w v L ⟨L1, ⟨rfl, rfl⟩, rfl⟩ hf hT
  refine rdT hf rfl rfl rfl rfl (rfl) (yl_cmp rfl rfl rfl) rfl (l' := [(63, _), (62, _), (61, _), (60, _), (59, _), (58, _), (57, _), (56, _), (55, _), (54, _), (53, _), (52, _), (51, _), (50, _), (49, _), (48, _), (47, _), (46, _), (45, _), (44, _), (43, _), (7, _), (6, _), (5, _), (2, _), (1, _)]) rfl ?_; intro a hf
  refine rd hf rfl (yl_pickTT rfl rfl rfl) rfl rfl ?_; intro a hf
  refine rd hf rfl (yl_assign rfl) rfl rfl ?_; intro a hf
  refine plan_nil ?_
  replace hf := hf.sel [0] (l' := [(0, _)]) rfl
  refine wpIn_ret ?_
  exact body_ret hf (L := []) hT.tail.tail.tail.tail.tail.tail.tail.tail.tail rfl rfl ⟨rfl, rfl⟩
end Go.Proofs.Ytjhbgciocffihaa
