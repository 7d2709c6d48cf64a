-- written by gen.py out of walks texts of my own
import Derived.Test.YtjhbgciocffihaaB12
set_option linter.unusedVariables false
set_option linter.unusedSimpArgs false
set_option maxHeartbeats 4000000
namespace Go.Proofs.Ytjhbgciocffihaa
theorem BufferKeeps_spec {e : Env} {w : World} {rs : List Part} (c : Int) (hc : 0 ≤ c ∧ c ≤ 65535) (pcs : List Pc) (hPc : ∀ p ∈ pcs, p.Ok) (v1 : Value) (hE : Els encPc rs v1 pcs) (hT : Tot e w rs) : Spec Try.prog 3 #[.int .u16 c, v1] e w rs (fun v L => v = .bool true ∧ L = []) := by
  refine spec_body Try.func3 rfl Try.ntmps3 rfl rfl ?_
  intro a hf
  refine wpIn_seq ?_
  -- region 0 (outright.go:50)
  refine wp_reg ([]) ([] ++ rs) [(0, true)] mixed (by kernel_rfl) (hT) ?_; intro w hT
  refine rd hf rfl (yl_assign rfl) rfl rfl ?_; intro a hf
  refine plan_nil ?_
  refine wpIn_seq ?_
  refine wpIn_seq ?_
  -- region 1 (outright.go:51)
  refine wp_reg ([]) ([] ++ rs) [(0, true), (1, true), (2, true)] mixed (by kernel_rfl) (hT) ?_; intro w hT
  refine rd hf rfl (yl_move rfl) rfl rfl ?_; intro a hf
  refine rd hf rfl (yl_lenE rfl Try.underlying23 hE.app) rfl rfl ?_; intro a hf
  refine rd hf rfl (yl_cmp rfl rfl rfl) rfl rfl ?_; intro a hf
  refine plan_nil ?_
  replace hf := hf.sel [22, 0, 1] (l' := [(22, _), (0, _), (1, _)]) rfl
  refine wp_ifd hf rfl (fun h40 => ?_) (fun h40 => ?_)
  · -- then
    refine wpIn_seq ?_
    -- region 2 (outright.go:52)
    refine wp_reg ([]) ([] ++ rs) [(0, false), (1, true)] mixed (by kernel_rfl) (hT) ?_; intro w hT
    refine ef_call hf rfl (wanted_none _ _ rfl) rfl rfl (by kernel_rfl) (Spec.frame (L2 := []) (fine_spec hT)) rfl (l' := [(22, _), (0, _), (1, _)]) rfl ?_; rintro a w v L ⟨L1, ⟨rfl, rfl⟩, rfl⟩ hf hT
    refine rd hf rfl (yl_assign rfl) rfl rfl ?_; intro a hf
    refine plan_nil ?_
    replace hf := hf.sel [4] (l' := [(4, _)]) rfl
    refine wpIn_ret ?_
    exact body_ret hf (L := []) hT rfl rfl ⟨rfl, rfl⟩
  · -- else
    refine wpIn_skip ?_
    refine wpIn_seq ?_
    -- region 3 (outright.go:54)
    refine wp_reg ([]) ([] ++ rs) [(0, true), (1, true), (2, true), (3, true), (4, false), (5, true), (6, true), (7, true), (8, true), (9, true)] mixed (by kernel_rfl) (hT) ?_; intro w hT
    refine rd hf rfl (yl_move rfl) rfl rfl ?_; intro a hf
    refine rd hf rfl (yl_conv64 rfl Try.underlying22 Try.underlying2 (by unfold inI64; omega)) rfl rfl ?_; intro a hf
    refine rd hf rfl (yl_rem rfl rfl (by omega) (by omega)) rfl rfl ?_; intro a hf
    refine rd hf rfl (yl_add rfl rfl (by unfold inI64; omega)) rfl rfl ?_; intro a hf
    refine ef_call hf rfl (wanted_none _ _ rfl) rfl rfl (by kernel_rfl) (Spec.frame (L2 := []) ((New_spec (1 + c % 1000) hT).mono (fun v L h => by rw [if_pos (⟨by omega, by omega⟩)] at h; exact h))) rfl (l' := [(28, _), (27, _), (26, _), (25, _), (22, _), (0, _), (1, _)]) rfl ?_; rintro a w v L ⟨L1, ⟨b, rfl, hB0⟩, rfl⟩ hf hT
    obtain ⟨y0, y1, y2, y3, y4, rfl⟩ := hB0.five
    refine rd hf rfl (yl_move rfl) rfl rfl ?_; intro a hf
    refine rd hf rfl (yl_extract rfl rfl) rfl rfl ?_; intro a hf
    refine rd hf rfl (yl_extract rfl rfl) rfl rfl ?_; intro a hf
    refine rd hf rfl (yl_assign rfl) rfl rfl ?_; intro a hf
    refine rd hf rfl (yl_assign rfl) rfl rfl ?_; intro a hf
    refine plan_nil ?_
    replace hf := hf.sel [6, 5, 0, 1] (l' := [(6, _), (5, _), (0, _), (1, _)]) rfl
    refine wpIn_seq ?_
    refine wpIn_seq ?_
    -- region 4 (outright.go:55)
    refine wp_reg ([]) ([_, _, _, _, _] ++ rs) [(0, true), (1, true), (2, true), (3, true), (4, true), (5, true)] mixed (by kernel_rfl) (hT) ?_; intro w hT
    refine rd hf rfl (yl_move rfl) rfl rfl ?_; intro a hf
    refine rd hf rfl (yl_cmp rfl rfl rfl) rfl rfl ?_; intro a hf
    refine rd hf rfl (yl_move rfl) rfl rfl ?_; intro a hf
    refine rdT hf rfl rfl rfl rfl (rfl) (yl_move rfl) rfl (l' := [(35, _), (34, _), (33, _), (32, _), (6, _), (5, _), (0, _), (1, _)]) rfl ?_; intro a hf
    refine rdT hf rfl rfl rfl rfl (rfl) (yl_ptrNil rfl rfl Try.underlying25 rfl) rfl (l' := [(36, _), (35, _), (34, _), (33, _), (32, _), (6, _), (5, _), (0, _), (1, _)]) rfl ?_; intro a hf
    refine rd hf rfl (yl_pickFF rfl rfl rfl) rfl rfl ?_; intro a hf
    refine plan_nil ?_
    replace hf := hf.sel [37, 5, 0, 1] (l' := [(37, _), (5, _), (0, _), (1, _)]) rfl
    refine wp_ifFF hf rfl (rfl) ?_
    refine wpIn_skip ?_
    refine wpIn_seq ?_
    -- region 6 (outright.go:58)
    refine wp_reg ([]) ([_, _, _, _, _] ++ rs) [(0, false), (1, true)] mixed (by kernel_rfl) (hT) ?_; intro w hT
    refine ef hf hT rfl rfl ef_makeMap rfl (l' := [(37, _), (5, _), (0, _), (1, _)]) rfl ?_; rintro a w v L ⟨m1, rfl, rfl⟩ hf hT
    have hqm1 := mapL_new (encK := ik) (encV := encR) m1
    refine rd hf rfl (yl_assign rfl) rfl rfl ?_; intro a hf
    refine plan_nil ?_
    refine wpIn_seq ?_
    refine wpIn_seq ?_
    -- region 7 (outright.go:59)
    refine wp_reg ([]) ([_, _, _, _, _, _] ++ rs) [(0, true)] mixed (by kernel_rfl) (hT) ?_; intro w hT
    refine rd hf rfl (yl_assign rfl) rfl rfl ?_; intro a hf
    refine plan_nil ?_
    refine wpIn_block ?_
    have hlen := hE.len_le
    replace hT := hT.bring 5
    replace hT := hT.bring 5
    replace hT := hT.bring 5
    replace hT := hT.bring 5
    replace hT := hT.bring 5
    replace hT := hT.bring 5
    refine wp_loopS (σ := Nat × BS × List (Int × Rec)) (fun (i, s, m) => [(8, .int .i64 (i : Nat))]) [(7, _), (5, _), (0, _), (1, _)] (fun (i, s, m) L => KI c i s m ∧ i ≤ pcs.length ∧ ∃ XA y0 y1 y2 y3 y4, MapL ik encR m1 m XA ∧ BufR b s [y0, y1, y2, y3, y4] ∧ L = [XA, y0, y1, y2, y3, y4]) (fun (i, s, m) => pcs.length - i) (0, ⟨1 + c % 1000, 0, 0, []⟩, []) (L := [_, _, _, _, _, _]) (R := [] ++ rs) (hf.sel [8, 7, 5, 0, 1] rfl) (⟨⟨inv0 _ ⟨by omega, by omega⟩, Nat.le_refl _, rfl, fun h hh => (by cases hh), by show (0 : Int) ≤ 1 + c % 1000; omega⟩, Nat.zero_le _, _, _, _, _, _, _, hqm1, hB0, rfl⟩) hT ?_
    clear hf hT; rintro ⟨i, s, m⟩ a w L hf ⟨hK, hi, XA, y0, y1, y2, y3, y4, hA, hB, rfl⟩ hT
    replace hf : Fr _ [(8, .int .i64 (i : Nat)), (7, _), (5, _), (0, _), (1, _)] _ _ := hf
    refine wpIn_seq ?_
    refine wpIn_seq ?_
    -- region 8 (outright.go:59)
    refine wp_reg ([]) ([_, _, _, _, _, _] ++ rs) [(0, true), (1, true), (2, true), (3, true)] mixed (by kernel_rfl) (hT) ?_; intro w hT
    refine rd hf rfl (yl_move rfl) rfl rfl ?_; intro a hf
    refine rd hf rfl (yl_move rfl) rfl rfl ?_; intro a hf
    refine rd hf rfl (yl_lenE rfl Try.underlying23 hE.app) rfl rfl ?_; intro a hf
    refine rd hf rfl (yl_cmp rfl rfl rfl) rfl rfl ?_; intro a hf
    refine plan_nil ?_
    replace hf := hf.sel [42, 8, 7, 5, 0, 1] (l' := [(42, _), (8, _), (7, _), (5, _), (0, _), (1, _)]) rfl
    refine wp_ifd hf rfl (fun hlt => ?_) (fun hlt => ?_)
    · -- then
      have hlt' : i < pcs.length := by omega
      have hj : pcs[i]? = some pcs[i] := List.getElem?_eq_getElem hlt'
      have hpo := hPc pcs[i] (List.getElem_mem hlt')
      generalize pcs[i] = p at hj hpo
      have hpr := Pc.toR_ok hpo
      have hkl := hK.len
      refine wpIn_skip ?_
      refine wpIn_seq ?_
      refine wpIn_block ?_
      refine wpIn_seq ?_
      -- region 10 (outright.go:60)
      refine wp_reg ([]) ([_, _, _, _, _, _] ++ rs) [(0, true), (1, true), (2, true), (3, true), (4, false), (5, false), (6, false)] mixed (by kernel_rfl) (hT) ?_; intro w hT
      refine rd hf rfl (yl_move rfl) rfl rfl ?_; intro a hf
      refine rd hf rfl (yl_move rfl) rfl rfl ?_; intro a hf
      refine rd hf rfl (yl_indexE rfl rfl Try.underlying23 sz_33 hE.app (by omega) (by omega)) rfl rfl ?_; intro a hf
      refine rd hf rfl (yl_loadA Try.underlying33 rfl sz_33 rfl (hE.app.row hj) rfl) rfl rfl ?_; intro a hf
      refine ef_call hf rfl (wanted_none _ _ rfl) rfl rfl (by kernel_rfl) (Spec.frame (L2 := []) (record_spec p hpo hT)) rfl (l' := [(48, _), (47, _), (46, _), (45, _), (42, _), (8, _), (7, _), (5, _), (0, _), (1, _)]) rfl ?_; rintro a w v L ⟨L1, ⟨rfl, rfl⟩, rfl⟩ hf hT
      refine ef hf hT rfl rfl (ef_alloc zr_31) rfl (l' := [(49, _), (48, _), (47, _), (46, _), (45, _), (42, _), (8, _), (7, _), (5, _), (0, _), (1, _)]) rfl ?_; rintro a w v L ⟨b1, rfl, rfl⟩ hf hT
      refine efS hf hT rfl rfl (ef_storeW rfl rfl sz_31 rfl rfl rfl) ?_; rintro w L rfl hT
      refine plan_nil ?_
      replace hf := hf.sel [9, 8, 7, 5, 0, 1] (l' := [(9, _), (8, _), (7, _), (5, _), (0, _), (1, _)]) rfl
      refine wpIn_seq ?_
      -- region 11 (outright.go:61)
      refine wp_reg ([]) ([_, _, _, _, _, _, _] ++ rs) [(0, true), (1, false), (2, true)] mixed (by kernel_rfl) (hT) ?_; intro w hT
      refine rd hf rfl (yl_move rfl) rfl rfl ?_; intro a hf
      refine ef_call hf rfl (wanted_none _ _ rfl) rfl rfl (by kernel_rfl) (Spec.frame (L2 := []) (Held_spec b s (hB.inn (fun x hx => by rcases mem5 hx with rfl | rfl | rfl | rfl | rfl; exact .tail _ (.tail _ (.head _)); exact .tail _ (.tail _ (.tail _ (.head _))); exact .tail _ (.tail _ (.tail _ (.tail _ (.head _)))); exact .tail _ (.tail _ (.tail _ (.tail _ (.tail _ (.head _))))); exact .tail _ (.tail _ (.tail _ (.tail _ (.tail _ (.tail _ (.head _)))))))) hK.inv.nd (by omega) hT)) rfl (l' := [(50, _), (9, _), (8, _), (7, _), (5, _), (0, _), (1, _)]) rfl ?_; rintro a w bef L ⟨L1, ⟨XH1, hH1, rfl⟩, rfl⟩ hf hT
      refine rd hf rfl (yl_assign rfl) rfl rfl ?_; intro a hf
      refine plan_nil ?_
      refine wpIn_seq ?_
      -- region 12 (outright.go:62)
      refine wp_reg ([_, _, _, _, _]) ([_, _, _] ++ rs) [(0, true), (1, true), (2, false), (3, true), (4, true), (5, true), (6, true), (7, true)] mixed (by kernel_rfl) (hT.brings [7, 7, 7, 7, 7]) ?_; intro w hT
      refine rd hf rfl (yl_move rfl) rfl rfl ?_; intro a hf
      refine rd hf rfl (yl_loadB Try.underlying31 rfl sz_31 (vs := p.toR.cells) (.tail _ (.head _)) rfl (pt_self _ _) rfl rfl) rfl rfl ?_; intro a hf
      replace hT : Tot _ _ ([_, _, _, _, _] ++ ([_, _, _] ++ rs)) := hT.bring 4
      replace hT : Tot _ _ ([_, _, _, _, _] ++ ([_, _, _] ++ rs)) := hT.bring 4
      replace hT : Tot _ _ ([_, _, _, _, _] ++ ([_, _, _] ++ rs)) := hT.bring 4
      replace hT : Tot _ _ ([_, _, _, _, _] ++ ([_, _, _] ++ rs)) := hT.bring 4
      replace hT : Tot _ _ ([_, _, _, _, _] ++ ([_, _, _] ++ rs)) := hT.bring 4
      refine ef_call hf rfl (wanted_none _ _ rfl) rfl rfl (by kernel_rfl) (Spec.frame (L2 := []) (Put5_spec b s _ hB hK.inv (by omega) p.toR hT)) rfl (l' := [(54, _), (53, _), (10, _), (51, _), (50, _), (9, _), (8, _), (7, _), (5, _), (0, _), (1, _)]) rfl ?_; rintro a w v L ⟨L1, ⟨s', d, er, q, XQ, Lp, rfl, hD, hBp, rfl, hR⟩, rfl⟩ hf hT
      have hI2 := hR.inv hK.inv
      have hl2 := hR.len (by omega)
      obtain ⟨z0, z1, z2, z3, z4, rfl⟩ := hBp.five
      refine rd hf rfl (yl_move rfl) rfl rfl ?_; intro a hf
      refine rd hf rfl (yl_extract rfl rfl) rfl rfl ?_; intro a hf
      refine rd hf rfl (yl_extract rfl rfl) rfl rfl ?_; intro a hf
      refine rd hf rfl (yl_assign rfl) rfl rfl ?_; intro a hf
      refine rd hf rfl (yl_assign rfl) rfl rfl ?_; intro a hf
      refine plan_nil ?_
      replace hf := hf.sel [12, 11, 10, 9, 8, 7, 5, 0, 1] (l' := [(12, _), (11, _), (10, _), (9, _), (8, _), (7, _), (5, _), (0, _), (1, _)]) rfl
      refine wpIn_seq ?_
      -- region 13 (outright.go:63)
      refine wp_reg ([]) ([_, _, _, _, _, _, _, _, _] ++ rs) [(0, true), (1, false), (2, true)] mixed (by kernel_rfl) (hT) ?_; intro w hT
      refine rd hf rfl (yl_move rfl) rfl rfl ?_; intro a hf
      refine ef_call hf rfl (wanted_none _ _ rfl) rfl rfl (by kernel_rfl) (Spec.frame (L2 := []) (Held_spec b s' (hBp.inn (fun x hx => by rcases mem5 hx with rfl | rfl | rfl | rfl | rfl; exact .tail _ (.head _); exact .tail _ (.tail _ (.head _)); exact .tail _ (.tail _ (.tail _ (.head _))); exact .tail _ (.tail _ (.tail _ (.tail _ (.head _)))); exact .tail _ (.tail _ (.tail _ (.tail _ (.tail _ (.head _))))))) hI2.nd (by omega) hT)) rfl (l' := [(58, _), (12, _), (11, _), (10, _), (9, _), (8, _), (7, _), (5, _), (0, _), (1, _)]) rfl ?_; rintro a w now L ⟨L1, ⟨XH2, hH2, rfl⟩, rfl⟩ hf hT
      refine rd hf rfl (yl_assign rfl) rfl rfl ?_; intro a hf
      refine plan_nil ?_
      refine wpIn_seq ?_
      refine wpIn_seq ?_
      -- region 14 (outright.go:64)
      refine wp_reg ([]) ([_, _, _, _, _, _, _, _, _, _] ++ rs) [(0, true), (1, true)] mixed (by kernel_rfl) (hT) ?_; intro w hT
      refine rd hf rfl (yl_move rfl) rfl rfl ?_; intro a hf
      refine rd hf rfl (yl_cmp rfl rfl rfl) rfl rfl ?_; intro a hf
      refine plan_nil ?_
      replace hf := hf.sel [61, 13, 12, 11, 10, 9, 8, 7, 5, 0, 1] (l' := [(61, _), (13, _), (12, _), (11, _), (10, _), (9, _), (8, _), (7, _), (5, _), (0, _), (1, _)]) rfl
      refine wp_ifd hf rfl (fun he => ?_) (fun he => ?_)
      · -- then
        obtain ⟨hse, hde, herr⟩ := kept_err hpr he hR
        rw [hse] at hH2 hBp
        have hsl : (!decide (s.L = s.L)) = false := by simp
        refine wpIn_seq ?_
        refine wpIn_seq ?_
        -- region 15: its branches meet again
        have hf0 := hf.sel [8, 7, 5, 0, 1] (l' := [(8, _), (7, _), (5, _), (0, _), (1, _)]) rfl
        refine wp_join hf0 hT 83 (.bool false) ?_ ?_
        · clear hf0
          -- region 15 (outright.go:65)
          refine wp_reg ([]) ([_, _, _, _, _, _, _, _, _, _] ++ rs) [(0, true), (1, true), (2, true), (3, true), (4, true), (5, true), (6, true), (7, true), (8, true), (9, false), (10, true), (11, true), (12, true), (13, true), (14, true), (15, true), (16, true), (17, true), (18, false), (19, true), (20, true), (21, true)] mixed (by kernel_rfl) (hT) ?_; intro w hT
          refine rd hf rfl (yl_move rfl) rfl rfl ?_; intro a hf
          refine rd hf rfl (yl_cmp rfl rfl rfl) rfl rfl ?_; intro a hf
          refine rd hf rfl (yl_move rfl) rfl rfl ?_; intro a hf
          by_cases hg2 : er ≠ 12
          · have hgT1 : decide (er ≠ 12) = true := by simpa using hg2
            have h14 : er = 14 ∧ p.toR.id ∉ ids s.L := by rcases herr with h | h; exact absurd h.1 hg2; exact h
            have h14b : decide (er ≠ 14) = false := by simp [h14.1]
            refine rdT hf rfl rfl rfl rfl (by first | exact hgT1 | simp [hgT1]) (yl_move rfl) rfl (l' := [(65, _), (64, _), (63, _), (62, _), (61, _), (13, _), (12, _), (11, _), (10, _), (9, _), (8, _), (7, _), (5, _), (0, _), (1, _)]) rfl ?_; intro a hf
            refine rdT hf rfl rfl rfl rfl (by first | exact hgT1 | simp [hgT1]) (yl_cmp rfl rfl rfl) rfl (l' := [(66, _), (65, _), (64, _), (63, _), (62, _), (61, _), (13, _), (12, _), (11, _), (10, _), (9, _), (8, _), (7, _), (5, _), (0, _), (1, _)]) rfl ?_; intro a hf
            refine rd hf rfl (yl_pickTT rfl hgT1 rfl) rfl rfl ?_; intro a hf
            refine rd hf rfl (yl_move rfl) rfl rfl ?_; intro a hf
            refine rdT hf rfl rfl rfl rfl (by first | exact h14b | simp [h14b]) (yl_move rfl) rfl (l' := [(69, _), (68, _), (67, _), (66, _), (65, _), (64, _), (63, _), (62, _), (61, _), (13, _), (12, _), (11, _), (10, _), (9, _), (8, _), (7, _), (5, _), (0, _), (1, _)]) rfl ?_; intro a hf
            refine rdT hf rfl rfl rfl rfl (by first | exact h14b | simp [h14b]) (yl_move rfl) rfl (l' := [(70, _), (69, _), (68, _), (67, _), (66, _), (65, _), (64, _), (63, _), (62, _), (61, _), (13, _), (12, _), (11, _), (10, _), (9, _), (8, _), (7, _), (5, _), (0, _), (1, _)]) rfl ?_; intro a hf
            refine ef_call hf rfl (by rw [wanted_some hf rfl rfl rfl rfl]; first | exact beqT h14b | simp [h14b]) rfl rfl (by kernel_rfl) (Spec.frame (L2 := []) (held_spec s.L s.L bef now (hH1.els (.tail _ (.tail _ (.tail _ (.tail _ (.tail _ (.tail _ (.tail _ (.head _))))))))) (hH2.els (.head _)) hT)) rfl (l' := [(70, _), (69, _), (68, _), (67, _), (66, _), (65, _), (64, _), (63, _), (62, _), (61, _), (13, _), (12, _), (11, _), (10, _), (9, _), (8, _), (7, _), (5, _), (0, _), (1, _)]) rfl ?_; rintro a w v L ⟨L1, ⟨rfl, rfl⟩, rfl⟩ hf hT
            refine rdT hf rfl rfl rfl rfl (by first | exact h14b | simp [h14b]) (yl_not rfl) rfl (l' := [(72, _), (71, _), (70, _), (69, _), (68, _), (67, _), (66, _), (65, _), (64, _), (63, _), (62, _), (61, _), (13, _), (12, _), (11, _), (10, _), (9, _), (8, _), (7, _), (5, _), (0, _), (1, _)]) rfl ?_; intro a hf
            refine rd hf rfl (yl_pickFF rfl h14b rfl) rfl rfl ?_; intro a hf
            refine rd hf rfl (yl_move rfl) rfl rfl ?_; intro a hf
            refine rdT hf rfl rfl rfl rfl (by first | exact hsl | simp [hsl]) (yl_move rfl) rfl (l' := [(75, _), (74, _), (73, _), (72, _), (71, _), (70, _), (69, _), (68, _), (67, _), (66, _), (65, _), (64, _), (63, _), (62, _), (61, _), (13, _), (12, _), (11, _), (10, _), (9, _), (8, _), (7, _), (5, _), (0, _), (1, _)]) rfl ?_; intro a hf
            refine rdT hf rfl rfl rfl rfl (by first | exact hsl | simp [hsl]) (yl_cmp rfl rfl rfl) rfl (l' := [(76, _), (75, _), (74, _), (73, _), (72, _), (71, _), (70, _), (69, _), (68, _), (67, _), (66, _), (65, _), (64, _), (63, _), (62, _), (61, _), (13, _), (12, _), (11, _), (10, _), (9, _), (8, _), (7, _), (5, _), (0, _), (1, _)]) rfl ?_; intro a hf
            refine rdT hf rfl rfl rfl rfl (by first | exact hsl | simp [hsl]) (yl_move rfl) rfl (l' := [(77, _), (76, _), (75, _), (74, _), (73, _), (72, _), (71, _), (70, _), (69, _), (68, _), (67, _), (66, _), (65, _), (64, _), (63, _), (62, _), (61, _), (13, _), (12, _), (11, _), (10, _), (9, _), (8, _), (7, _), (5, _), (0, _), (1, _)]) rfl ?_; intro a hf
            refine rdT hf rfl rfl rfl rfl (by first | exact hsl | simp [hsl]) (yl_faddr Try.underlying31 rfl rfl sz_2 (k := 0) rfl) rfl (l' := [(78, _), (77, _), (76, _), (75, _), (74, _), (73, _), (72, _), (71, _), (70, _), (69, _), (68, _), (67, _), (66, _), (65, _), (64, _), (63, _), (62, _), (61, _), (13, _), (12, _), (11, _), (10, _), (9, _), (8, _), (7, _), (5, _), (0, _), (1, _)]) rfl ?_; intro a hf
            refine rdT hf rfl rfl rfl rfl (by first | exact hsl | simp [hsl]) (yl_load Try.underlying2 rfl rfl ⟨_, .tail _ (.tail _ (.tail _ (.tail _ (.tail _ (.tail _ (.tail _ (.tail _ (.head _)))))))), _, _, _, pt_self _ _, rfl⟩) rfl (l' := [(79, _), (78, _), (77, _), (76, _), (75, _), (74, _), (73, _), (72, _), (71, _), (70, _), (69, _), (68, _), (67, _), (66, _), (65, _), (64, _), (63, _), (62, _), (61, _), (13, _), (12, _), (11, _), (10, _), (9, _), (8, _), (7, _), (5, _), (0, _), (1, _)]) rfl ?_; intro a hf
            refine ef_call hf rfl (by rw [wanted_some hf rfl rfl rfl rfl]; first | exact beqT hsl | simp [hsl]) rfl rfl (by kernel_rfl) (Spec.frame (L2 := []) (find_spec s.L p.toR.id bef (hH1.els (.tail _ (.tail _ (.tail _ (.tail _ (.tail _ (.tail _ (.tail _ (.head _))))))))) hT)) rfl (l' := [(79, _), (78, _), (77, _), (76, _), (75, _), (74, _), (73, _), (72, _), (71, _), (70, _), (69, _), (68, _), (67, _), (66, _), (65, _), (64, _), (63, _), (62, _), (61, _), (13, _), (12, _), (11, _), (10, _), (9, _), (8, _), (7, _), (5, _), (0, _), (1, _)]) rfl ?_; rintro a w v L ⟨L1, ⟨j, rfl, hj2, rfl⟩, rfl⟩ hf hT
            refine rdT hf rfl rfl rfl rfl (by first | exact hsl | simp [hsl]) (yl_cmp rfl rfl rfl) rfl (l' := [(81, _), (80, _), (79, _), (78, _), (77, _), (76, _), (75, _), (74, _), (73, _), (72, _), (71, _), (70, _), (69, _), (68, _), (67, _), (66, _), (65, _), (64, _), (63, _), (62, _), (61, _), (13, _), (12, _), (11, _), (10, _), (9, _), (8, _), (7, _), (5, _), (0, _), (1, _)]) rfl ?_; intro a hf
            refine rdT hf rfl rfl rfl rfl (by first | exact hsl | simp [hsl]) (yl_boolEq rfl rfl Try.underlying4 rfl) rfl (l' := [(82, _), (81, _), (80, _), (79, _), (78, _), (77, _), (76, _), (75, _), (74, _), (73, _), (72, _), (71, _), (70, _), (69, _), (68, _), (67, _), (66, _), (65, _), (64, _), (63, _), (62, _), (61, _), (13, _), (12, _), (11, _), (10, _), (9, _), (8, _), (7, _), (5, _), (0, _), (1, _)]) rfl ?_; intro a hf
            refine rd hf rfl (yl_pickFF rfl hsl rfl) rfl rfl ?_; intro a hf
            refine plan_nil ?_
            exact ⟨(hf.sel [83, 8, 7, 5, 0, 1] (l' := [(83, _), (8, _), (7, _), (5, _), (0, _), (1, _)]) rfl).fix (by rcases hj2 with ⟨i0, hi0, hji, hid⟩ | ⟨hji, hni⟩; exact absurd (List.mem_map.2 ⟨_, List.getElem_mem hi0, hid⟩) h14.2; simp [h14.1, hji]), hT⟩
          · have hgT1 : decide (er ≠ 12) = false := by simpa using hg2
            have h12 : er = 12 ∧ p.toR.id ∈ ids s.L := by rcases herr with h | h; exact h; exact absurd h.1 (by omega)
            refine rdF hf rfl rfl rfl rfl (by first | exact hgT1 | simp [hgT1]) rfl (l' := [(65, _), (64, _), (63, _), (62, _), (61, _), (13, _), (12, _), (11, _), (10, _), (9, _), (8, _), (7, _), (5, _), (0, _), (1, _)]) rfl ?_; intro a hf
            refine rdF hf rfl rfl rfl rfl (by first | exact hgT1 | simp [hgT1]) rfl (l' := [(66, _), (65, _), (64, _), (63, _), (62, _), (61, _), (13, _), (12, _), (11, _), (10, _), (9, _), (8, _), (7, _), (5, _), (0, _), (1, _)]) rfl ?_; intro a hf
            refine rd hf rfl (yl_pickFF rfl hgT1 rfl) rfl rfl ?_; intro a hf
            refine rd hf rfl (yl_move rfl) rfl rfl ?_; intro a hf
            refine rdT hf rfl rfl rfl rfl (rfl) (yl_move rfl) rfl (l' := [(69, _), (68, _), (67, _), (66, _), (65, _), (64, _), (63, _), (62, _), (61, _), (13, _), (12, _), (11, _), (10, _), (9, _), (8, _), (7, _), (5, _), (0, _), (1, _)]) rfl ?_; intro a hf
            refine rdT hf rfl rfl rfl rfl (rfl) (yl_move rfl) rfl (l' := [(70, _), (69, _), (68, _), (67, _), (66, _), (65, _), (64, _), (63, _), (62, _), (61, _), (13, _), (12, _), (11, _), (10, _), (9, _), (8, _), (7, _), (5, _), (0, _), (1, _)]) rfl ?_; intro a hf
            refine ef_call hf rfl (by rw [wanted_some hf rfl rfl rfl rfl]; first | rfl | simp | decide) rfl rfl (by kernel_rfl) (Spec.frame (L2 := []) (held_spec s.L s.L bef now (hH1.els (.tail _ (.tail _ (.tail _ (.tail _ (.tail _ (.tail _ (.tail _ (.head _))))))))) (hH2.els (.head _)) hT)) rfl (l' := [(70, _), (69, _), (68, _), (67, _), (66, _), (65, _), (64, _), (63, _), (62, _), (61, _), (13, _), (12, _), (11, _), (10, _), (9, _), (8, _), (7, _), (5, _), (0, _), (1, _)]) rfl ?_; rintro a w v L ⟨L1, ⟨rfl, rfl⟩, rfl⟩ hf hT
            refine rdT hf rfl rfl rfl rfl (rfl) (yl_not rfl) rfl (l' := [(72, _), (71, _), (70, _), (69, _), (68, _), (67, _), (66, _), (65, _), (64, _), (63, _), (62, _), (61, _), (13, _), (12, _), (11, _), (10, _), (9, _), (8, _), (7, _), (5, _), (0, _), (1, _)]) rfl ?_; intro a hf
            refine rd hf rfl (yl_pickFF rfl rfl rfl) rfl rfl ?_; intro a hf
            refine rd hf rfl (yl_move rfl) rfl rfl ?_; intro a hf
            refine rdT hf rfl rfl rfl rfl (by first | exact hsl | simp [hsl]) (yl_move rfl) rfl (l' := [(75, _), (74, _), (73, _), (72, _), (71, _), (70, _), (69, _), (68, _), (67, _), (66, _), (65, _), (64, _), (63, _), (62, _), (61, _), (13, _), (12, _), (11, _), (10, _), (9, _), (8, _), (7, _), (5, _), (0, _), (1, _)]) rfl ?_; intro a hf
            refine rdT hf rfl rfl rfl rfl (by first | exact hsl | simp [hsl]) (yl_cmp rfl rfl rfl) rfl (l' := [(76, _), (75, _), (74, _), (73, _), (72, _), (71, _), (70, _), (69, _), (68, _), (67, _), (66, _), (65, _), (64, _), (63, _), (62, _), (61, _), (13, _), (12, _), (11, _), (10, _), (9, _), (8, _), (7, _), (5, _), (0, _), (1, _)]) rfl ?_; intro a hf
            refine rdT hf rfl rfl rfl rfl (by first | exact hsl | simp [hsl]) (yl_move rfl) rfl (l' := [(77, _), (76, _), (75, _), (74, _), (73, _), (72, _), (71, _), (70, _), (69, _), (68, _), (67, _), (66, _), (65, _), (64, _), (63, _), (62, _), (61, _), (13, _), (12, _), (11, _), (10, _), (9, _), (8, _), (7, _), (5, _), (0, _), (1, _)]) rfl ?_; intro a hf
            refine rdT hf rfl rfl rfl rfl (by first | exact hsl | simp [hsl]) (yl_faddr Try.underlying31 rfl rfl sz_2 (k := 0) rfl) rfl (l' := [(78, _), (77, _), (76, _), (75, _), (74, _), (73, _), (72, _), (71, _), (70, _), (69, _), (68, _), (67, _), (66, _), (65, _), (64, _), (63, _), (62, _), (61, _), (13, _), (12, _), (11, _), (10, _), (9, _), (8, _), (7, _), (5, _), (0, _), (1, _)]) rfl ?_; intro a hf
            refine rdT hf rfl rfl rfl rfl (by first | exact hsl | simp [hsl]) (yl_load Try.underlying2 rfl rfl ⟨_, .tail _ (.tail _ (.tail _ (.tail _ (.tail _ (.tail _ (.tail _ (.tail _ (.head _)))))))), _, _, _, pt_self _ _, rfl⟩) rfl (l' := [(79, _), (78, _), (77, _), (76, _), (75, _), (74, _), (73, _), (72, _), (71, _), (70, _), (69, _), (68, _), (67, _), (66, _), (65, _), (64, _), (63, _), (62, _), (61, _), (13, _), (12, _), (11, _), (10, _), (9, _), (8, _), (7, _), (5, _), (0, _), (1, _)]) rfl ?_; intro a hf
            refine ef_call hf rfl (by rw [wanted_some hf rfl rfl rfl rfl]; first | exact beqT hsl | simp [hsl]) rfl rfl (by kernel_rfl) (Spec.frame (L2 := []) (find_spec s.L p.toR.id bef (hH1.els (.tail _ (.tail _ (.tail _ (.tail _ (.tail _ (.tail _ (.tail _ (.head _))))))))) hT)) rfl (l' := [(79, _), (78, _), (77, _), (76, _), (75, _), (74, _), (73, _), (72, _), (71, _), (70, _), (69, _), (68, _), (67, _), (66, _), (65, _), (64, _), (63, _), (62, _), (61, _), (13, _), (12, _), (11, _), (10, _), (9, _), (8, _), (7, _), (5, _), (0, _), (1, _)]) rfl ?_; rintro a w v L ⟨L1, ⟨j, rfl, hj2, rfl⟩, rfl⟩ hf hT
            refine rdT hf rfl rfl rfl rfl (by first | exact hsl | simp [hsl]) (yl_cmp rfl rfl rfl) rfl (l' := [(81, _), (80, _), (79, _), (78, _), (77, _), (76, _), (75, _), (74, _), (73, _), (72, _), (71, _), (70, _), (69, _), (68, _), (67, _), (66, _), (65, _), (64, _), (63, _), (62, _), (61, _), (13, _), (12, _), (11, _), (10, _), (9, _), (8, _), (7, _), (5, _), (0, _), (1, _)]) rfl ?_; intro a hf
            refine rdT hf rfl rfl rfl rfl (by first | exact hsl | simp [hsl]) (yl_boolEq rfl rfl Try.underlying4 rfl) rfl (l' := [(82, _), (81, _), (80, _), (79, _), (78, _), (77, _), (76, _), (75, _), (74, _), (73, _), (72, _), (71, _), (70, _), (69, _), (68, _), (67, _), (66, _), (65, _), (64, _), (63, _), (62, _), (61, _), (13, _), (12, _), (11, _), (10, _), (9, _), (8, _), (7, _), (5, _), (0, _), (1, _)]) rfl ?_; intro a hf
            refine rd hf rfl (yl_pickFF rfl hsl rfl) rfl rfl ?_; intro a hf
            refine plan_nil ?_
            exact ⟨(hf.sel [83, 8, 7, 5, 0, 1] (l' := [(83, _), (8, _), (7, _), (5, _), (0, _), (1, _)]) rfl).fix (by rcases hj2 with ⟨i0, hi0, hji, hid⟩ | ⟨hji, hni⟩; simp [h12.1, hji]; exact absurd h12.2 hni), hT⟩
        · clear hf hf0 hT; intro a w hf hT
          refine wp_ifFF hf rfl (rfl) ?_
          refine wpIn_skip ?_
          refine wpIn_exit ?_
          refine then_exit ?_
          refine inBlock_hit ?_
          -- region 9 (outright.go:59)
          refine wp_reg ([]) ([_, _, _, _, _, _, _, _, _, _] ++ rs) [(0, true), (1, true), (2, true)] mixed (by kernel_rfl) (hT) ?_; intro w hT
          refine rd hf rfl (yl_move rfl) rfl rfl ?_; intro a hf
          refine rd hf rfl (yl_add rfl rfl (by unfold inI64; omega)) rfl rfl ?_; intro a hf
          refine rw_ hf rfl (yl_assign rfl) rfl (l' := [(8, _), (44, _), (43, _), (83, _), (7, _), (5, _), (0, _), (1, _)]) rfl ?_; intro a hf
          refine plan_nil ?_
          replace hf := hf.sel [8, 7, 5, 0, 1] (l' := [(8, _), (7, _), (5, _), (0, _), (1, _)]) rfl
          exact ⟨(i + 1, s, m), _, hf.sel [8, 7, 5, 0, 1] rfl, ⟨hK.step, by omega, XA, _, _, _, _, _, hA, hBp, rfl⟩, ((hT.brings [8, 8, 3, 3]).tail.tail.tail.tail.brings [4, 4, 4, 4, 4, 5]), by first | omega | (dsimp only; omega)⟩
      · -- else
        have he0 : er = 0 := by omega
        subst he0
        obtain ⟨hKp, hK2, hnid⟩ := kept hK (by omega) hpr hR
        have hlenK := hKp.len
        have hln1 : s'.L.length ≤ 41 := by omega
        refine wpIn_skip ?_
        refine wpIn_seq ?_
        -- region 17 (outright.go:70)
        refine wp_reg ([]) ([_, _, _, _, _, _, _, _, _, _] ++ rs) [(0, true), (1, true), (2, true), (3, true), (4, false)] mixed (by kernel_rfl) (hT) ?_; intro w hT
        refine rd hf rfl (yl_move rfl) rfl rfl ?_; intro a hf
        refine rd hf rfl (yl_faddr Try.underlying31 rfl rfl sz_2 (k := 0) rfl) rfl rfl ?_; intro a hf
        refine rd hf rfl (yl_load Try.underlying2 rfl rfl ⟨_, .tail _ (.tail _ (.tail _ (.tail _ (.tail _ (.tail _ (.tail _ (.tail _ (.head _)))))))), _, _, _, pt_self _ _, rfl⟩) rfl rfl ?_; intro a hf
        refine rd hf rfl (yl_loadB Try.underlying31 rfl sz_31 (vs := p.toR.cells) (.tail _ (.tail _ (.tail _ (.tail _ (.tail _ (.tail _ (.tail _ (.tail _ (.head _))))))))) rfl (pt_self _ _) rfl rfl) rfl rfl ?_; intro a hf
        replace hT : Tot _ _ ([_] ++ ([_, _, _, _, _, _, _, _, _] ++ rs)) := hT.bring 9
        refine efS_last hf hT rfl rfl (by kernel_rfl) (ef_mapUpdate (v := p.toR) kI Try.underlying29 rfl rfl rfl hA) ?_; rintro w L ⟨M1, hM1, rfl⟩ hT
        replace hf := hf.sel [13, 11, 10, 9, 8, 7, 5, 0, 1] (l' := [(13, _), (11, _), (10, _), (9, _), (8, _), (7, _), (5, _), (0, _), (1, _)]) rfl
        refine wpIn_seq ?_
        refine wpIn_seq ?_
        -- region 18 (outright.go:71)
        refine wp_reg ([]) ([_, _, _, _, _, _, _, _, _, _] ++ rs) [(0, true), (1, true), (2, true), (3, true), (4, true), (5, true), (6, true), (7, true), (8, true)] mixed (by kernel_rfl) (hT) ?_; intro w hT
        refine rd hf rfl (yl_move rfl) rfl rfl ?_; intro a hf
        refine rd hf rfl (yl_lenE rfl Try.underlying35 (hH2.els (.tail _ (.head _)))) rfl rfl ?_; intro a hf
        refine rd hf rfl (yl_move rfl) rfl rfl ?_; intro a hf
        refine rd hf rfl (yl_lenE rfl Try.underlying37 (hD.els (.tail _ (.tail _ (.head _))))) rfl rfl ?_; intro a hf
        refine rd hf rfl (yl_add rfl rfl (by unfold inI64; omega)) rfl rfl ?_; intro a hf
        refine rd hf rfl (yl_move rfl) rfl rfl ?_; intro a hf
        refine rd hf rfl (yl_lenE rfl Try.underlying35 (hH1.els (.tail _ (.tail _ (.tail _ (.tail _ (.tail _ (.tail _ (.tail _ (.tail _ (.head _))))))))))) rfl rfl ?_; intro a hf
        refine rd hf rfl (yl_add rfl rfl (by unfold inI64; omega)) rfl rfl ?_; intro a hf
        refine rd hf rfl (yl_cmp rfl rfl rfl) rfl rfl ?_; intro a hf
        refine plan_nil ?_
        replace hf := hf.sel [96, 13, 11, 10, 9, 8, 7, 5, 0, 1] (l' := [(96, _), (13, _), (11, _), (10, _), (9, _), (8, _), (7, _), (5, _), (0, _), (1, _)]) rfl
        refine wp_ifd hf rfl (fun hl0 => ?_) (fun hl0 => ?_)
        · -- then
          exact absurd hl0 (by omega)
        · -- else
          refine wpIn_skip ?_
          refine wpIn_seq ?_
          -- region 20 (outright.go:74)
          refine wp_reg ([]) ([_, _, _, _, _, _, _, _, _, _] ++ rs) [(0, true)] mixed (by kernel_rfl) (hT) ?_; intro w hT
          refine rd hf rfl (yl_assign rfl) rfl rfl ?_; intro a hf
          refine plan_nil ?_
          refine wpIn_seq ?_
          refine wpIn_seq ?_
          -- region 21 (outright.go:75)
          refine wp_reg ([]) ([_, _, _, _, _, _, _, _, _, _] ++ rs) [(0, true)] mixed (by kernel_rfl) (hT) ?_; intro w hT
          refine rd hf rfl (yl_assign rfl) rfl rfl ?_; intro a hf
          refine plan_nil ?_
          refine wpIn_block ?_
          refine wp_loopS (σ := Nat) (fun k => [(14, .int .i64 (sumB (s'.L.take k))), (15, .int .i64 (k : Nat))]) [(13, _), (11, _), (10, _), (9, _), (8, _), (7, _), (5, _), (0, _), (1, _)] (fun k L => L = [] ∧ k ≤ s'.L.length) (fun k => s'.L.length - k) 0 (L := []) (R := [_, _, _, _, _, _, _, _, _, _] ++ rs) (hf.sel [14, 15, 13, 11, 10, 9, 8, 7, 5, 0, 1] rfl) (⟨rfl, Nat.zero_le _⟩) hT ?_
          clear hf hT; rintro k a w L hf ⟨rfl, hk⟩ hT
          replace hf : Fr _ [(14, .int .i64 (sumB (s'.L.take k))), (15, .int .i64 (k : Nat)), (13, _), (11, _), (10, _), (9, _), (8, _), (7, _), (5, _), (0, _), (1, _)] _ _ := hf
          refine wpIn_seq ?_
          refine wpIn_seq ?_
          -- region 22 (outright.go:75)
          refine wp_reg ([]) ([_, _, _, _, _, _, _, _, _, _] ++ rs) [(0, true), (1, true), (2, true), (3, true)] mixed (by kernel_rfl) (hT) ?_; intro w hT
          refine rd hf rfl (yl_move rfl) rfl rfl ?_; intro a hf
          refine rd hf rfl (yl_move rfl) rfl rfl ?_; intro a hf
          refine rd hf rfl (yl_lenE rfl Try.underlying35 (hH2.els (.tail _ (.head _)))) rfl rfl ?_; intro a hf
          refine rd hf rfl (yl_cmp rfl rfl rfl) rfl rfl ?_; intro a hf
          refine plan_nil ?_
          replace hf := hf.sel [100, 14, 15, 13, 11, 10, 9, 8, 7, 5, 0, 1] (l' := [(100, _), (14, _), (15, _), (13, _), (11, _), (10, _), (9, _), (8, _), (7, _), (5, _), (0, _), (1, _)]) rfl
          refine wp_ifd hf rfl (fun hkl2 => ?_) (fun hkl2 => ?_)
          · -- then
            have hltk : k < s'.L.length := by omega
            have hj : s'.L[k]? = some s'.L[k] := List.getElem?_eq_getElem hltk
            have hhm := List.getElem_mem hltk
            have hho := hI2.ok _ hhm
            have hbr := bytes_rng hho
            have hsr := sumB_rng (L := s'.L.take k) (fun h hh => hI2.ok h (List.mem_of_mem_take hh))
            have htl : (s'.L.take k).length ≤ 41 := by rw [List.length_take]; omega
            have hall := hK2.all _ hhm
            have hrr : (!decide (s'.L[k].r = s'.L[k].r)) = false := by simp
            have hnw := hKp.nw _ hhm
            have hold := hKp.old _ hhm
            have hdrop : ∀ x ∈ d, ∃ y, assoc (upd m p.toR.id p.toR) x = some y ∧ y.Ok ∧ 0 < cmpR y s'.L[k].r ∧ s'.L[k].sq = false := fun x hx => by obtain ⟨y, h1, h2, h3⟩ := hKp.drop x hx; exact ⟨y, h1, h2, h3 _ hhm⟩
            refine wpIn_skip ?_
            refine wpIn_seq ?_
            refine wpIn_block ?_
            refine wpIn_seq ?_
            -- region 24 (outright.go:76)
            refine wp_reg ([]) ([_, _, _, _, _, _, _, _, _, _] ++ rs) [(0, true), (1, true), (2, true), (3, true), (4, true), (5, false), (6, true), (7, true)] mixed (by kernel_rfl) (hT) ?_; intro w hT
            refine rd hf rfl (yl_move rfl) rfl rfl ?_; intro a hf
            refine rd hf rfl (yl_move rfl) rfl rfl ?_; intro a hf
            refine rd hf rfl (yl_move rfl) rfl rfl ?_; intro a hf
            refine rd hf rfl (yl_indexE rfl rfl Try.underlying35 sz_44 (hH2.els (.tail _ (.head _))) (by omega) (by omega)) rfl rfl ?_; intro a hf
            refine rd hf rfl (yl_loadA Try.underlying44 rfl sz_44 rfl ((hH2.els (.tail _ (.head _))).row hj) rfl) rfl rfl ?_; intro a hf
            refine ef_call hf rfl (wanted_none _ _ rfl) rfl rfl (by kernel_rfl) (Spec.frame (L2 := []) (lbytes_spec s'.L[k] hT)) rfl (l' := [(107, _), (106, _), (105, _), (104, _), (103, _), (100, _), (14, _), (15, _), (13, _), (11, _), (10, _), (9, _), (8, _), (7, _), (5, _), (0, _), (1, _)]) rfl ?_; rintro a w v L ⟨L1, ⟨rfl, rfl⟩, rfl⟩ hf hT
            refine rd hf rfl (yl_add rfl rfl (by unfold inI64; omega)) rfl rfl ?_; intro a hf
            refine rw_ hf rfl (yl_assign rfl) rfl (l' := [(14, _), (109, _), (108, _), (107, _), (106, _), (105, _), (104, _), (103, _), (100, _), (15, _), (13, _), (11, _), (10, _), (9, _), (8, _), (7, _), (5, _), (0, _), (1, _)]) rfl ?_; intro a hf
            refine plan_nil ?_
            replace hf := hf.sel [14, 15, 13, 11, 10, 9, 8, 7, 5, 0, 1] (l' := [(14, _), (15, _), (13, _), (11, _), (10, _), (9, _), (8, _), (7, _), (5, _), (0, _), (1, _)]) rfl
            refine wpIn_seq ?_
            refine wpIn_seq ?_
            -- region 25: its branches meet again
            have hf0 := hf.sel [14, 15, 13, 11, 10, 9, 8, 7, 5, 0, 1] (l' := [(14, _), (15, _), (13, _), (11, _), (10, _), (9, _), (8, _), (7, _), (5, _), (0, _), (1, _)]) rfl
            refine wp_join hf0 hT 142 (.bool false) ?_ ?_
            · clear hf0
              -- region 25 (outright.go:77)
              refine wp_reg ([]) ([_, _, _, _, _, _, _, _, _, _] ++ rs) [(0, true), (1, true), (2, true), (3, true), (4, true), (5, true), (6, true), (7, true), (8, true), (9, true), (10, true), (11, true), (12, true), (13, true), (14, true), (15, true), (16, true), (17, true), (18, true), (19, true), (20, true), (21, true), (22, true), (23, true), (24, true), (25, true), (26, true), (27, true), (28, true), (29, false), (30, true), (31, true), (32, true)] mixed (by kernel_rfl) (hT) ?_; intro w hT
              refine rd hf rfl (yl_move rfl) rfl rfl ?_; intro a hf
              refine rd hf rfl (yl_move rfl) rfl rfl ?_; intro a hf
              refine rd hf rfl (yl_indexE rfl rfl Try.underlying35 sz_44 (hH2.els (.tail _ (.head _))) (by omega) (by omega)) rfl rfl ?_; intro a hf
              refine rd hf rfl (yl_faddr Try.underlying44 rfl rfl sz_31 rfl) rfl rfl ?_; intro a hf
              refine rd hf rfl (yl_loadA Try.underlying31 rfl sz_31 rfl (((hH2.els (.tail _ (.head _))).row hj).part 0 5) rfl) rfl rfl ?_; intro a hf
              refine rd hf rfl (yl_move rfl) rfl rfl ?_; intro a hf
              refine rd hf rfl (yl_move rfl) rfl rfl ?_; intro a hf
              refine rd hf rfl (yl_move rfl) rfl rfl ?_; intro a hf
              refine rd hf rfl (yl_indexE rfl rfl Try.underlying35 sz_44 (hH2.els (.tail _ (.head _))) (by omega) (by omega)) rfl rfl ?_; intro a hf
              refine rd hf rfl (yl_faddr Try.underlying44 rfl rfl sz_31 rfl) rfl rfl ?_; intro a hf
              refine rd hf rfl (yl_faddr Try.underlying31 rfl rfl sz_2 rfl) rfl rfl ?_; intro a hf
              refine rd hf rfl (yl_load Try.underlying2 rfl rfl ((hH2.els (.tail _ (.head _))).cell hj (f := 0) rfl)) rfl rfl ?_; intro a hf
              refine rd hf rfl (yl_lookupE kI Try.underlying29 zr_31 rfl rfl ⟨_, .head _, hM1⟩ (show _ = encR s'.L[k].r from by rw [hall]; rfl)) rfl rfl ?_; intro a hf
              refine rd hf rfl (yl_aggEq (k := 2) rfl rfl (by kernel_rfl) (by decide) (eqR s'.L[k].r s'.L[k].r) rfl) rfl rfl ?_; intro a hf
              refine rd hf rfl (yl_move rfl) rfl rfl ?_; intro a hf
              refine rdT hf rfl rfl rfl rfl (by first | exact hrr | simp [hrr]) (yl_move rfl) rfl (l' := [(125, _), (124, _), (123, _), (122, _), (121, _), (120, _), (119, _), (118, _), (117, _), (116, _), (115, _), (114, _), (113, _), (112, _), (111, _), (110, _), (14, _), (15, _), (13, _), (11, _), (10, _), (9, _), (8, _), (7, _), (5, _), (0, _), (1, _)]) rfl ?_; intro a hf
              refine rdT hf rfl rfl rfl rfl (by first | exact hrr | simp [hrr]) (yl_cmp rfl rfl rfl) rfl (l' := [(126, _), (125, _), (124, _), (123, _), (122, _), (121, _), (120, _), (119, _), (118, _), (117, _), (116, _), (115, _), (114, _), (113, _), (112, _), (111, _), (110, _), (14, _), (15, _), (13, _), (11, _), (10, _), (9, _), (8, _), (7, _), (5, _), (0, _), (1, _)]) rfl ?_; intro a hf
              refine rdT hf rfl rfl rfl rfl (by first | exact hrr | simp [hrr]) (yl_move rfl) rfl (l' := [(127, _), (126, _), (125, _), (124, _), (123, _), (122, _), (121, _), (120, _), (119, _), (118, _), (117, _), (116, _), (115, _), (114, _), (113, _), (112, _), (111, _), (110, _), (14, _), (15, _), (13, _), (11, _), (10, _), (9, _), (8, _), (7, _), (5, _), (0, _), (1, _)]) rfl ?_; intro a hf
              by_cases hg17 : (0 : Int) < (k : Nat)
              · have hgT2 : decide ((0 : Int) < (k : Nat)) = true := by simpa using hg17
                have hprev := sorted_prev hI2.srt hltk (by omega)
                have hpm := hI2.ok _ (List.getElem_mem (show k - 1 < s'.L.length by omega))
                have hjp : s'.L[(((k : Nat) : Int) - 1).toNat]? = some (s'.L[k - 1]'(by omega)) := by rw [show (((k : Nat) : Int) - 1).toNat = k - 1 by omega]; exact List.getElem?_eq_getElem _
                refine rdT hf rfl rfl rfl rfl (by first | exact hgT2 | simp [hgT2]) (yl_move rfl) rfl (l' := [(128, _), (127, _), (126, _), (125, _), (124, _), (123, _), (122, _), (121, _), (120, _), (119, _), (118, _), (117, _), (116, _), (115, _), (114, _), (113, _), (112, _), (111, _), (110, _), (14, _), (15, _), (13, _), (11, _), (10, _), (9, _), (8, _), (7, _), (5, _), (0, _), (1, _)]) rfl ?_; intro a hf
                refine rdT hf rfl rfl rfl rfl (by first | exact hgT2 | simp [hgT2]) (yl_move rfl) rfl (l' := [(129, _), (128, _), (127, _), (126, _), (125, _), (124, _), (123, _), (122, _), (121, _), (120, _), (119, _), (118, _), (117, _), (116, _), (115, _), (114, _), (113, _), (112, _), (111, _), (110, _), (14, _), (15, _), (13, _), (11, _), (10, _), (9, _), (8, _), (7, _), (5, _), (0, _), (1, _)]) rfl ?_; intro a hf
                refine rdT hf rfl rfl rfl rfl (by first | exact hgT2 | simp [hgT2]) (yl_indexE rfl rfl Try.underlying35 sz_44 (hH2.els (.tail _ (.head _))) (by omega) (by omega)) rfl (l' := [(130, _), (129, _), (128, _), (127, _), (126, _), (125, _), (124, _), (123, _), (122, _), (121, _), (120, _), (119, _), (118, _), (117, _), (116, _), (115, _), (114, _), (113, _), (112, _), (111, _), (110, _), (14, _), (15, _), (13, _), (11, _), (10, _), (9, _), (8, _), (7, _), (5, _), (0, _), (1, _)]) rfl ?_; intro a hf
                refine rdT hf rfl rfl rfl rfl (by first | exact hgT2 | simp [hgT2]) (yl_faddr Try.underlying44 rfl rfl sz_31 rfl) rfl (l' := [(131, _), (130, _), (129, _), (128, _), (127, _), (126, _), (125, _), (124, _), (123, _), (122, _), (121, _), (120, _), (119, _), (118, _), (117, _), (116, _), (115, _), (114, _), (113, _), (112, _), (111, _), (110, _), (14, _), (15, _), (13, _), (11, _), (10, _), (9, _), (8, _), (7, _), (5, _), (0, _), (1, _)]) rfl ?_; intro a hf
                refine rdT hf rfl rfl rfl rfl (by first | exact hgT2 | simp [hgT2]) (yl_loadA Try.underlying31 rfl sz_31 rfl (((hH2.els (.tail _ (.head _))).row hj).part 0 5) rfl) rfl (l' := [(132, _), (131, _), (130, _), (129, _), (128, _), (127, _), (126, _), (125, _), (124, _), (123, _), (122, _), (121, _), (120, _), (119, _), (118, _), (117, _), (116, _), (115, _), (114, _), (113, _), (112, _), (111, _), (110, _), (14, _), (15, _), (13, _), (11, _), (10, _), (9, _), (8, _), (7, _), (5, _), (0, _), (1, _)]) rfl ?_; intro a hf
                refine rdT hf rfl rfl rfl rfl (by first | exact hgT2 | simp [hgT2]) (yl_move rfl) rfl (l' := [(133, _), (132, _), (131, _), (130, _), (129, _), (128, _), (127, _), (126, _), (125, _), (124, _), (123, _), (122, _), (121, _), (120, _), (119, _), (118, _), (117, _), (116, _), (115, _), (114, _), (113, _), (112, _), (111, _), (110, _), (14, _), (15, _), (13, _), (11, _), (10, _), (9, _), (8, _), (7, _), (5, _), (0, _), (1, _)]) rfl ?_; intro a hf
                refine rdT hf rfl rfl rfl rfl (by first | exact hgT2 | simp [hgT2]) (yl_move rfl) rfl (l' := [(134, _), (133, _), (132, _), (131, _), (130, _), (129, _), (128, _), (127, _), (126, _), (125, _), (124, _), (123, _), (122, _), (121, _), (120, _), (119, _), (118, _), (117, _), (116, _), (115, _), (114, _), (113, _), (112, _), (111, _), (110, _), (14, _), (15, _), (13, _), (11, _), (10, _), (9, _), (8, _), (7, _), (5, _), (0, _), (1, _)]) rfl ?_; intro a hf
                refine rdT hf rfl rfl rfl rfl (by first | exact hgT2 | simp [hgT2]) (yl_sub rfl rfl (by unfold inI64; omega)) rfl (l' := [(135, _), (134, _), (133, _), (132, _), (131, _), (130, _), (129, _), (128, _), (127, _), (126, _), (125, _), (124, _), (123, _), (122, _), (121, _), (120, _), (119, _), (118, _), (117, _), (116, _), (115, _), (114, _), (113, _), (112, _), (111, _), (110, _), (14, _), (15, _), (13, _), (11, _), (10, _), (9, _), (8, _), (7, _), (5, _), (0, _), (1, _)]) rfl ?_; intro a hf
                refine rdT hf rfl rfl rfl rfl (by first | exact hgT2 | simp [hgT2]) (yl_indexE rfl rfl Try.underlying35 sz_44 (hH2.els (.tail _ (.head _))) (by omega) (by omega)) rfl (l' := [(136, _), (135, _), (134, _), (133, _), (132, _), (131, _), (130, _), (129, _), (128, _), (127, _), (126, _), (125, _), (124, _), (123, _), (122, _), (121, _), (120, _), (119, _), (118, _), (117, _), (116, _), (115, _), (114, _), (113, _), (112, _), (111, _), (110, _), (14, _), (15, _), (13, _), (11, _), (10, _), (9, _), (8, _), (7, _), (5, _), (0, _), (1, _)]) rfl ?_; intro a hf
                refine rdT hf rfl rfl rfl rfl (by first | exact hgT2 | simp [hgT2]) (yl_faddr Try.underlying44 rfl rfl sz_31 rfl) rfl (l' := [(137, _), (136, _), (135, _), (134, _), (133, _), (132, _), (131, _), (130, _), (129, _), (128, _), (127, _), (126, _), (125, _), (124, _), (123, _), (122, _), (121, _), (120, _), (119, _), (118, _), (117, _), (116, _), (115, _), (114, _), (113, _), (112, _), (111, _), (110, _), (14, _), (15, _), (13, _), (11, _), (10, _), (9, _), (8, _), (7, _), (5, _), (0, _), (1, _)]) rfl ?_; intro a hf
                refine rdT hf rfl rfl rfl rfl (by first | exact hgT2 | simp [hgT2]) (yl_loadA Try.underlying31 rfl sz_31 rfl (((hH2.els (.tail _ (.head _))).row hjp).part 0 5) rfl) rfl (l' := [(138, _), (137, _), (136, _), (135, _), (134, _), (133, _), (132, _), (131, _), (130, _), (129, _), (128, _), (127, _), (126, _), (125, _), (124, _), (123, _), (122, _), (121, _), (120, _), (119, _), (118, _), (117, _), (116, _), (115, _), (114, _), (113, _), (112, _), (111, _), (110, _), (14, _), (15, _), (13, _), (11, _), (10, _), (9, _), (8, _), (7, _), (5, _), (0, _), (1, _)]) rfl ?_; intro a hf
                refine ef_call hf rfl (by rw [wanted_some hf rfl rfl rfl rfl]; first | exact beqT hgT2 | simp [hgT2]) rfl rfl (by kernel_rfl) (Spec.frame (L2 := []) (lesser_spec s'.L[k].r (s'.L[k - 1]'(by omega)).r hho hpm hT)) rfl (l' := [(138, _), (137, _), (136, _), (135, _), (134, _), (133, _), (132, _), (131, _), (130, _), (129, _), (128, _), (127, _), (126, _), (125, _), (124, _), (123, _), (122, _), (121, _), (120, _), (119, _), (118, _), (117, _), (116, _), (115, _), (114, _), (113, _), (112, _), (111, _), (110, _), (14, _), (15, _), (13, _), (11, _), (10, _), (9, _), (8, _), (7, _), (5, _), (0, _), (1, _)]) rfl ?_; rintro a w v L ⟨L1, ⟨rfl, rfl⟩, rfl⟩ hf hT
                refine rdT hf rfl rfl rfl rfl (by first | exact hgT2 | simp [hgT2]) (yl_not rfl) rfl (l' := [(140, _), (139, _), (138, _), (137, _), (136, _), (135, _), (134, _), (133, _), (132, _), (131, _), (130, _), (129, _), (128, _), (127, _), (126, _), (125, _), (124, _), (123, _), (122, _), (121, _), (120, _), (119, _), (118, _), (117, _), (116, _), (115, _), (114, _), (113, _), (112, _), (111, _), (110, _), (14, _), (15, _), (13, _), (11, _), (10, _), (9, _), (8, _), (7, _), (5, _), (0, _), (1, _)]) rfl ?_; intro a hf
                refine rdT hf rfl rfl rfl rfl (by first | exact hrr | simp [hrr]) (yl_pickTT rfl hgT2 rfl) rfl (l' := [(141, _), (140, _), (139, _), (138, _), (137, _), (136, _), (135, _), (134, _), (133, _), (132, _), (131, _), (130, _), (129, _), (128, _), (127, _), (126, _), (125, _), (124, _), (123, _), (122, _), (121, _), (120, _), (119, _), (118, _), (117, _), (116, _), (115, _), (114, _), (113, _), (112, _), (111, _), (110, _), (14, _), (15, _), (13, _), (11, _), (10, _), (9, _), (8, _), (7, _), (5, _), (0, _), (1, _)]) rfl ?_; intro a hf
                refine rd hf rfl (yl_pickFF rfl hrr rfl) rfl rfl ?_; intro a hf
                refine plan_nil ?_
                exact ⟨(hf.sel [142, 14, 15, 13, 11, 10, 9, 8, 7, 5, 0, 1] (l' := [(142, _), (14, _), (15, _), (13, _), (11, _), (10, _), (9, _), (8, _), (7, _), (5, _), (0, _), (1, _)]) rfl).fix (by simp [hprev]), hT⟩
              · have hgT2 : decide ((0 : Int) < (k : Nat)) = false := by simpa using hg17
                refine rdF hf rfl rfl rfl rfl (by first | exact hgT2 | simp [hgT2]) rfl (l' := [(128, _), (127, _), (126, _), (125, _), (124, _), (123, _), (122, _), (121, _), (120, _), (119, _), (118, _), (117, _), (116, _), (115, _), (114, _), (113, _), (112, _), (111, _), (110, _), (14, _), (15, _), (13, _), (11, _), (10, _), (9, _), (8, _), (7, _), (5, _), (0, _), (1, _)]) rfl ?_; intro a hf
                refine rdF hf rfl rfl rfl rfl (by first | exact hgT2 | simp [hgT2]) rfl (l' := [(129, _), (128, _), (127, _), (126, _), (125, _), (124, _), (123, _), (122, _), (121, _), (120, _), (119, _), (118, _), (117, _), (116, _), (115, _), (114, _), (113, _), (112, _), (111, _), (110, _), (14, _), (15, _), (13, _), (11, _), (10, _), (9, _), (8, _), (7, _), (5, _), (0, _), (1, _)]) rfl ?_; intro a hf
                refine rdF hf rfl rfl rfl rfl (by first | exact hgT2 | simp [hgT2]) rfl (l' := [(130, _), (129, _), (128, _), (127, _), (126, _), (125, _), (124, _), (123, _), (122, _), (121, _), (120, _), (119, _), (118, _), (117, _), (116, _), (115, _), (114, _), (113, _), (112, _), (111, _), (110, _), (14, _), (15, _), (13, _), (11, _), (10, _), (9, _), (8, _), (7, _), (5, _), (0, _), (1, _)]) rfl ?_; intro a hf
                refine rdF hf rfl rfl rfl rfl (by first | exact hgT2 | simp [hgT2]) rfl (l' := [(131, _), (130, _), (129, _), (128, _), (127, _), (126, _), (125, _), (124, _), (123, _), (122, _), (121, _), (120, _), (119, _), (118, _), (117, _), (116, _), (115, _), (114, _), (113, _), (112, _), (111, _), (110, _), (14, _), (15, _), (13, _), (11, _), (10, _), (9, _), (8, _), (7, _), (5, _), (0, _), (1, _)]) rfl ?_; intro a hf
                refine rdF hf rfl rfl rfl rfl (by first | exact hgT2 | simp [hgT2]) rfl (l' := [(132, _), (131, _), (130, _), (129, _), (128, _), (127, _), (126, _), (125, _), (124, _), (123, _), (122, _), (121, _), (120, _), (119, _), (118, _), (117, _), (116, _), (115, _), (114, _), (113, _), (112, _), (111, _), (110, _), (14, _), (15, _), (13, _), (11, _), (10, _), (9, _), (8, _), (7, _), (5, _), (0, _), (1, _)]) rfl ?_; intro a hf
                refine rdF hf rfl rfl rfl rfl (by first | exact hgT2 | simp [hgT2]) rfl (l' := [(133, _), (132, _), (131, _), (130, _), (129, _), (128, _), (127, _), (126, _), (125, _), (124, _), (123, _), (122, _), (121, _), (120, _), (119, _), (118, _), (117, _), (116, _), (115, _), (114, _), (113, _), (112, _), (111, _), (110, _), (14, _), (15, _), (13, _), (11, _), (10, _), (9, _), (8, _), (7, _), (5, _), (0, _), (1, _)]) rfl ?_; intro a hf
                refine rdF hf rfl rfl rfl rfl (by first | exact hgT2 | simp [hgT2]) rfl (l' := [(134, _), (133, _), (132, _), (131, _), (130, _), (129, _), (128, _), (127, _), (126, _), (125, _), (124, _), (123, _), (122, _), (121, _), (120, _), (119, _), (118, _), (117, _), (116, _), (115, _), (114, _), (113, _), (112, _), (111, _), (110, _), (14, _), (15, _), (13, _), (11, _), (10, _), (9, _), (8, _), (7, _), (5, _), (0, _), (1, _)]) rfl ?_; intro a hf
                refine rdF hf rfl rfl rfl rfl (by first | exact hgT2 | simp [hgT2]) rfl (l' := [(135, _), (134, _), (133, _), (132, _), (131, _), (130, _), (129, _), (128, _), (127, _), (126, _), (125, _), (124, _), (123, _), (122, _), (121, _), (120, _), (119, _), (118, _), (117, _), (116, _), (115, _), (114, _), (113, _), (112, _), (111, _), (110, _), (14, _), (15, _), (13, _), (11, _), (10, _), (9, _), (8, _), (7, _), (5, _), (0, _), (1, _)]) rfl ?_; intro a hf
                refine rdF hf rfl rfl rfl rfl (by first | exact hgT2 | simp [hgT2]) rfl (l' := [(136, _), (135, _), (134, _), (133, _), (132, _), (131, _), (130, _), (129, _), (128, _), (127, _), (126, _), (125, _), (124, _), (123, _), (122, _), (121, _), (120, _), (119, _), (118, _), (117, _), (116, _), (115, _), (114, _), (113, _), (112, _), (111, _), (110, _), (14, _), (15, _), (13, _), (11, _), (10, _), (9, _), (8, _), (7, _), (5, _), (0, _), (1, _)]) rfl ?_; intro a hf
                refine rdF hf rfl rfl rfl rfl (by first | exact hgT2 | simp [hgT2]) rfl (l' := [(137, _), (136, _), (135, _), (134, _), (133, _), (132, _), (131, _), (130, _), (129, _), (128, _), (127, _), (126, _), (125, _), (124, _), (123, _), (122, _), (121, _), (120, _), (119, _), (118, _), (117, _), (116, _), (115, _), (114, _), (113, _), (112, _), (111, _), (110, _), (14, _), (15, _), (13, _), (11, _), (10, _), (9, _), (8, _), (7, _), (5, _), (0, _), (1, _)]) rfl ?_; intro a hf
                refine rdF hf rfl rfl rfl rfl (by first | exact hgT2 | simp [hgT2]) rfl (l' := [(138, _), (137, _), (136, _), (135, _), (134, _), (133, _), (132, _), (131, _), (130, _), (129, _), (128, _), (127, _), (126, _), (125, _), (124, _), (123, _), (122, _), (121, _), (120, _), (119, _), (118, _), (117, _), (116, _), (115, _), (114, _), (113, _), (112, _), (111, _), (110, _), (14, _), (15, _), (13, _), (11, _), (10, _), (9, _), (8, _), (7, _), (5, _), (0, _), (1, _)]) rfl ?_; intro a hf
                refine efF hf rfl rfl rfl rfl (by first | exact hgT2 | simp [hgT2]) hT.allR (by simp [Nat.blt]) (l' := [(139, _), (138, _), (137, _), (136, _), (135, _), (134, _), (133, _), (132, _), (131, _), (130, _), (129, _), (128, _), (127, _), (126, _), (125, _), (124, _), (123, _), (122, _), (121, _), (120, _), (119, _), (118, _), (117, _), (116, _), (115, _), (114, _), (113, _), (112, _), (111, _), (110, _), (14, _), (15, _), (13, _), (11, _), (10, _), (9, _), (8, _), (7, _), (5, _), (0, _), (1, _)]) rfl ?_; intro a hf
                refine rdF hf rfl rfl rfl rfl (by first | exact hgT2 | simp [hgT2]) rfl (l' := [(140, _), (139, _), (138, _), (137, _), (136, _), (135, _), (134, _), (133, _), (132, _), (131, _), (130, _), (129, _), (128, _), (127, _), (126, _), (125, _), (124, _), (123, _), (122, _), (121, _), (120, _), (119, _), (118, _), (117, _), (116, _), (115, _), (114, _), (113, _), (112, _), (111, _), (110, _), (14, _), (15, _), (13, _), (11, _), (10, _), (9, _), (8, _), (7, _), (5, _), (0, _), (1, _)]) rfl ?_; intro a hf
                refine rdT hf rfl rfl rfl rfl (by first | exact hrr | simp [hrr]) (yl_pickFF rfl hgT2 rfl) rfl (l' := [(141, _), (140, _), (139, _), (138, _), (137, _), (136, _), (135, _), (134, _), (133, _), (132, _), (131, _), (130, _), (129, _), (128, _), (127, _), (126, _), (125, _), (124, _), (123, _), (122, _), (121, _), (120, _), (119, _), (118, _), (117, _), (116, _), (115, _), (114, _), (113, _), (112, _), (111, _), (110, _), (14, _), (15, _), (13, _), (11, _), (10, _), (9, _), (8, _), (7, _), (5, _), (0, _), (1, _)]) rfl ?_; intro a hf
                refine rd hf rfl (yl_pickFF rfl hrr rfl) rfl rfl ?_; intro a hf
                refine plan_nil ?_
                exact ⟨(hf.sel [142, 14, 15, 13, 11, 10, 9, 8, 7, 5, 0, 1] (l' := [(142, _), (14, _), (15, _), (13, _), (11, _), (10, _), (9, _), (8, _), (7, _), (5, _), (0, _), (1, _)]) rfl).fix (rfl), hT⟩
            · clear hf hf0 hT; intro a w hf hT
              refine wp_ifFF hf rfl (rfl) ?_
              refine wpIn_skip ?_
              refine wpIn_seq ?_
              -- region 27 (outright.go:81)
              refine wp_reg ([]) ([_, _, _, _, _, _, _, _, _, _] ++ rs) [(0, true), (1, true), (2, true), (3, true), (4, true), (5, true), (6, true), (7, false), (8, true)] mixed (by kernel_rfl) (hT) ?_; intro w hT
              refine rd hf rfl (yl_move rfl) rfl rfl ?_; intro a hf
              refine rd hf rfl (yl_move rfl) rfl rfl ?_; intro a hf
              refine rd hf rfl (yl_move rfl) rfl rfl ?_; intro a hf
              refine rd hf rfl (yl_indexE rfl rfl Try.underlying35 sz_44 (hH2.els (.tail _ (.head _))) (by omega) (by omega)) rfl rfl ?_; intro a hf
              refine rd hf rfl (yl_faddr Try.underlying44 rfl rfl sz_31 rfl) rfl rfl ?_; intro a hf
              refine rd hf rfl (yl_faddr Try.underlying31 rfl rfl sz_2 rfl) rfl rfl ?_; intro a hf
              refine rd hf rfl (yl_load Try.underlying2 rfl rfl ((hH2.els (.tail _ (.head _))).cell hj (f := 0) rfl)) rfl rfl ?_; intro a hf
              refine ef_call hf rfl (wanted_none _ _ rfl) rfl rfl (by kernel_rfl) (Spec.frame (L2 := []) (find_spec s.L s'.L[k].r.id bef (hH1.els (.tail _ (.tail _ (.tail _ (.tail _ (.tail _ (.tail _ (.tail _ (.tail _ (.head _)))))))))) hT)) rfl (l' := [(149, _), (148, _), (147, _), (146, _), (145, _), (144, _), (143, _), (142, _), (14, _), (15, _), (13, _), (11, _), (10, _), (9, _), (8, _), (7, _), (5, _), (0, _), (1, _)]) rfl ?_; rintro a w v L ⟨L1, ⟨j, rfl, hj2, rfl⟩, rfl⟩ hf hT
              refine rd hf rfl (yl_assign rfl) rfl rfl ?_; intro a hf
              refine plan_nil ?_
              replace hf := hf.sel [16, 14, 15, 13, 11, 10, 9, 8, 7, 5, 0, 1] (l' := [(16, _), (14, _), (15, _), (13, _), (11, _), (10, _), (9, _), (8, _), (7, _), (5, _), (0, _), (1, _)]) rfl
              refine wpIn_seq ?_
              refine wpIn_seq ?_
              -- region 28: its branches meet again
              have hf0 := hf.sel [14, 15, 13, 11, 10, 9, 8, 7, 5, 0, 1] (l' := [(14, _), (15, _), (13, _), (11, _), (10, _), (9, _), (8, _), (7, _), (5, _), (0, _), (1, _)]) rfl
              refine wp_join hf0 hT 180 (.bool false) ?_ ?_
              · clear hf0
                -- region 28 (outright.go:82)
                refine wp_reg ([]) ([_, _, _, _, _, _, _, _, _, _] ++ rs) [(0, true), (1, true), (2, true), (3, true), (4, true), (5, true), (6, true), (7, true), (8, true), (9, true), (10, true), (11, true), (12, true), (13, true), (14, true), (15, true), (16, true), (17, true), (18, true), (19, true), (20, true), (21, true), (22, true), (23, true), (24, true), (25, true), (26, true), (27, true), (28, true), (29, true)] mixed (by kernel_rfl) (hT) ?_; intro w hT
                refine rd hf rfl (yl_move rfl) rfl rfl ?_; intro a hf
                refine rd hf rfl (yl_cmp rfl rfl rfl) rfl rfl ?_; intro a hf
                refine rd hf rfl (yl_move rfl) rfl rfl ?_; intro a hf
                by_cases hg2 : j < 0
                · have hgT3 : decide (j < 0) = true := by simpa using hg2
                  have hnr : s'.L[k].r = p.toR := hnw (by rcases hj2 with ⟨i0, hi0, hji, hid⟩ | ⟨hji, hni⟩; exact absurd hg2 (by omega); exact hni)
                  have hnr2 : (!decide (s'.L[k].r = p.toR)) = false := by simp [hnr]
                  have hj0 : decide (0 ≤ j) = false := by simp; omega
                  refine rdT hf rfl rfl rfl rfl (by first | exact hgT3 | simp [hgT3]) (yl_move rfl) rfl (l' := [(154, _), (153, _), (152, _), (151, _), (16, _), (14, _), (15, _), (13, _), (11, _), (10, _), (9, _), (8, _), (7, _), (5, _), (0, _), (1, _)]) rfl ?_; intro a hf
                  refine rdT hf rfl rfl rfl rfl (by first | exact hgT3 | simp [hgT3]) (yl_move rfl) rfl (l' := [(155, _), (154, _), (153, _), (152, _), (151, _), (16, _), (14, _), (15, _), (13, _), (11, _), (10, _), (9, _), (8, _), (7, _), (5, _), (0, _), (1, _)]) rfl ?_; intro a hf
                  refine rdT hf rfl rfl rfl rfl (by first | exact hgT3 | simp [hgT3]) (yl_indexE rfl rfl Try.underlying35 sz_44 (hH2.els (.tail _ (.head _))) (by omega) (by omega)) rfl (l' := [(156, _), (155, _), (154, _), (153, _), (152, _), (151, _), (16, _), (14, _), (15, _), (13, _), (11, _), (10, _), (9, _), (8, _), (7, _), (5, _), (0, _), (1, _)]) rfl ?_; intro a hf
                  refine rdT hf rfl rfl rfl rfl (by first | exact hgT3 | simp [hgT3]) (yl_faddr Try.underlying44 rfl rfl sz_31 rfl) rfl (l' := [(157, _), (156, _), (155, _), (154, _), (153, _), (152, _), (151, _), (16, _), (14, _), (15, _), (13, _), (11, _), (10, _), (9, _), (8, _), (7, _), (5, _), (0, _), (1, _)]) rfl ?_; intro a hf
                  refine rdT hf rfl rfl rfl rfl (by first | exact hgT3 | simp [hgT3]) (yl_loadA Try.underlying31 rfl sz_31 rfl (((hH2.els (.tail _ (.head _))).row hj).part 0 5) rfl) rfl (l' := [(158, _), (157, _), (156, _), (155, _), (154, _), (153, _), (152, _), (151, _), (16, _), (14, _), (15, _), (13, _), (11, _), (10, _), (9, _), (8, _), (7, _), (5, _), (0, _), (1, _)]) rfl ?_; intro a hf
                  refine rdT hf rfl rfl rfl rfl (by first | exact hgT3 | simp [hgT3]) (yl_loadB Try.underlying31 rfl sz_31 (vs := p.toR.cells) (.tail _ (.tail _ (.tail _ (.tail _ (.tail _ (.tail _ (.tail _ (.tail _ (.tail _ (.head _)))))))))) rfl (pt_self _ _) rfl rfl) rfl (l' := [(159, _), (158, _), (157, _), (156, _), (155, _), (154, _), (153, _), (152, _), (151, _), (16, _), (14, _), (15, _), (13, _), (11, _), (10, _), (9, _), (8, _), (7, _), (5, _), (0, _), (1, _)]) rfl ?_; intro a hf
                  refine rdT hf rfl rfl rfl rfl (by first | exact hgT3 | simp [hgT3]) (yl_aggEq (k := 2) rfl rfl (by kernel_rfl) (by decide) (eqR s'.L[k].r p.toR) rfl) rfl (l' := [(160, _), (159, _), (158, _), (157, _), (156, _), (155, _), (154, _), (153, _), (152, _), (151, _), (16, _), (14, _), (15, _), (13, _), (11, _), (10, _), (9, _), (8, _), (7, _), (5, _), (0, _), (1, _)]) rfl ?_; intro a hf
                  refine rd hf rfl (yl_pickTT rfl hgT3 rfl) rfl rfl ?_; intro a hf
                  refine rd hf rfl (yl_move rfl) rfl rfl ?_; intro a hf
                  refine rdT hf rfl rfl rfl rfl (by first | exact hnr2 | simp [hnr2]) (yl_move rfl) rfl (l' := [(163, _), (162, _), (161, _), (160, _), (159, _), (158, _), (157, _), (156, _), (155, _), (154, _), (153, _), (152, _), (151, _), (16, _), (14, _), (15, _), (13, _), (11, _), (10, _), (9, _), (8, _), (7, _), (5, _), (0, _), (1, _)]) rfl ?_; intro a hf
                  refine rdT hf rfl rfl rfl rfl (by first | exact hnr2 | simp [hnr2]) (yl_cmp rfl rfl rfl) rfl (l' := [(164, _), (163, _), (162, _), (161, _), (160, _), (159, _), (158, _), (157, _), (156, _), (155, _), (154, _), (153, _), (152, _), (151, _), (16, _), (14, _), (15, _), (13, _), (11, _), (10, _), (9, _), (8, _), (7, _), (5, _), (0, _), (1, _)]) rfl ?_; intro a hf
                  refine rdT hf rfl rfl rfl rfl (by first | exact hnr2 | simp [hnr2]) (yl_move rfl) rfl (l' := [(165, _), (164, _), (163, _), (162, _), (161, _), (160, _), (159, _), (158, _), (157, _), (156, _), (155, _), (154, _), (153, _), (152, _), (151, _), (16, _), (14, _), (15, _), (13, _), (11, _), (10, _), (9, _), (8, _), (7, _), (5, _), (0, _), (1, _)]) rfl ?_; intro a hf
                  refine rdF hf rfl rfl rfl rfl (by first | exact hj0 | simp [hj0]) rfl (l' := [(166, _), (165, _), (164, _), (163, _), (162, _), (161, _), (160, _), (159, _), (158, _), (157, _), (156, _), (155, _), (154, _), (153, _), (152, _), (151, _), (16, _), (14, _), (15, _), (13, _), (11, _), (10, _), (9, _), (8, _), (7, _), (5, _), (0, _), (1, _)]) rfl ?_; intro a hf
                  refine rdF hf rfl rfl rfl rfl (by first | exact hj0 | simp [hj0]) rfl (l' := [(167, _), (166, _), (165, _), (164, _), (163, _), (162, _), (161, _), (160, _), (159, _), (158, _), (157, _), (156, _), (155, _), (154, _), (153, _), (152, _), (151, _), (16, _), (14, _), (15, _), (13, _), (11, _), (10, _), (9, _), (8, _), (7, _), (5, _), (0, _), (1, _)]) rfl ?_; intro a hf
                  refine rdF hf rfl rfl rfl rfl (by first | exact hj0 | simp [hj0]) rfl (l' := [(168, _), (167, _), (166, _), (165, _), (164, _), (163, _), (162, _), (161, _), (160, _), (159, _), (158, _), (157, _), (156, _), (155, _), (154, _), (153, _), (152, _), (151, _), (16, _), (14, _), (15, _), (13, _), (11, _), (10, _), (9, _), (8, _), (7, _), (5, _), (0, _), (1, _)]) rfl ?_; intro a hf
                  refine rdF hf rfl rfl rfl rfl (by first | exact hj0 | simp [hj0]) rfl (l' := [(169, _), (168, _), (167, _), (166, _), (165, _), (164, _), (163, _), (162, _), (161, _), (160, _), (159, _), (158, _), (157, _), (156, _), (155, _), (154, _), (153, _), (152, _), (151, _), (16, _), (14, _), (15, _), (13, _), (11, _), (10, _), (9, _), (8, _), (7, _), (5, _), (0, _), (1, _)]) rfl ?_; intro a hf
                  refine rdF hf rfl rfl rfl rfl (by first | exact hj0 | simp [hj0]) rfl (l' := [(170, _), (169, _), (168, _), (167, _), (166, _), (165, _), (164, _), (163, _), (162, _), (161, _), (160, _), (159, _), (158, _), (157, _), (156, _), (155, _), (154, _), (153, _), (152, _), (151, _), (16, _), (14, _), (15, _), (13, _), (11, _), (10, _), (9, _), (8, _), (7, _), (5, _), (0, _), (1, _)]) rfl ?_; intro a hf
                  refine rdT hf rfl rfl rfl rfl (by first | exact hnr2 | simp [hnr2]) (yl_pickFF rfl hj0 rfl) rfl (l' := [(171, _), (170, _), (169, _), (168, _), (167, _), (166, _), (165, _), (164, _), (163, _), (162, _), (161, _), (160, _), (159, _), (158, _), (157, _), (156, _), (155, _), (154, _), (153, _), (152, _), (151, _), (16, _), (14, _), (15, _), (13, _), (11, _), (10, _), (9, _), (8, _), (7, _), (5, _), (0, _), (1, _)]) rfl ?_; intro a hf
                  refine rdT hf rfl rfl rfl rfl (by first | exact hnr2 | simp [hnr2]) (yl_move rfl) rfl (l' := [(172, _), (171, _), (170, _), (169, _), (168, _), (167, _), (166, _), (165, _), (164, _), (163, _), (162, _), (161, _), (160, _), (159, _), (158, _), (157, _), (156, _), (155, _), (154, _), (153, _), (152, _), (151, _), (16, _), (14, _), (15, _), (13, _), (11, _), (10, _), (9, _), (8, _), (7, _), (5, _), (0, _), (1, _)]) rfl ?_; intro a hf
                  refine rdF hf rfl rfl rfl rfl (rfl) rfl (l' := [(173, _), (172, _), (171, _), (170, _), (169, _), (168, _), (167, _), (166, _), (165, _), (164, _), (163, _), (162, _), (161, _), (160, _), (159, _), (158, _), (157, _), (156, _), (155, _), (154, _), (153, _), (152, _), (151, _), (16, _), (14, _), (15, _), (13, _), (11, _), (10, _), (9, _), (8, _), (7, _), (5, _), (0, _), (1, _)]) rfl ?_; intro a hf
                  refine rdF hf rfl rfl rfl rfl (rfl) rfl (l' := [(174, _), (173, _), (172, _), (171, _), (170, _), (169, _), (168, _), (167, _), (166, _), (165, _), (164, _), (163, _), (162, _), (161, _), (160, _), (159, _), (158, _), (157, _), (156, _), (155, _), (154, _), (153, _), (152, _), (151, _), (16, _), (14, _), (15, _), (13, _), (11, _), (10, _), (9, _), (8, _), (7, _), (5, _), (0, _), (1, _)]) rfl ?_; intro a hf
                  refine rdF hf rfl rfl rfl rfl (rfl) rfl (l' := [(175, _), (174, _), (173, _), (172, _), (171, _), (170, _), (169, _), (168, _), (167, _), (166, _), (165, _), (164, _), (163, _), (162, _), (161, _), (160, _), (159, _), (158, _), (157, _), (156, _), (155, _), (154, _), (153, _), (152, _), (151, _), (16, _), (14, _), (15, _), (13, _), (11, _), (10, _), (9, _), (8, _), (7, _), (5, _), (0, _), (1, _)]) rfl ?_; intro a hf
                  refine rdF hf rfl rfl rfl rfl (rfl) rfl (l' := [(176, _), (175, _), (174, _), (173, _), (172, _), (171, _), (170, _), (169, _), (168, _), (167, _), (166, _), (165, _), (164, _), (163, _), (162, _), (161, _), (160, _), (159, _), (158, _), (157, _), (156, _), (155, _), (154, _), (153, _), (152, _), (151, _), (16, _), (14, _), (15, _), (13, _), (11, _), (10, _), (9, _), (8, _), (7, _), (5, _), (0, _), (1, _)]) rfl ?_; intro a hf
                  refine rdF hf rfl rfl rfl rfl (rfl) rfl (l' := [(177, _), (176, _), (175, _), (174, _), (173, _), (172, _), (171, _), (170, _), (169, _), (168, _), (167, _), (166, _), (165, _), (164, _), (163, _), (162, _), (161, _), (160, _), (159, _), (158, _), (157, _), (156, _), (155, _), (154, _), (153, _), (152, _), (151, _), (16, _), (14, _), (15, _), (13, _), (11, _), (10, _), (9, _), (8, _), (7, _), (5, _), (0, _), (1, _)]) rfl ?_; intro a hf
                  refine rdF hf rfl rfl rfl rfl (rfl) rfl (l' := [(178, _), (177, _), (176, _), (175, _), (174, _), (173, _), (172, _), (171, _), (170, _), (169, _), (168, _), (167, _), (166, _), (165, _), (164, _), (163, _), (162, _), (161, _), (160, _), (159, _), (158, _), (157, _), (156, _), (155, _), (154, _), (153, _), (152, _), (151, _), (16, _), (14, _), (15, _), (13, _), (11, _), (10, _), (9, _), (8, _), (7, _), (5, _), (0, _), (1, _)]) rfl ?_; intro a hf
                  refine rdT hf rfl rfl rfl rfl (by first | exact hnr2 | simp [hnr2]) (yl_pickFF rfl rfl rfl) rfl (l' := [(179, _), (178, _), (177, _), (176, _), (175, _), (174, _), (173, _), (172, _), (171, _), (170, _), (169, _), (168, _), (167, _), (166, _), (165, _), (164, _), (163, _), (162, _), (161, _), (160, _), (159, _), (158, _), (157, _), (156, _), (155, _), (154, _), (153, _), (152, _), (151, _), (16, _), (14, _), (15, _), (13, _), (11, _), (10, _), (9, _), (8, _), (7, _), (5, _), (0, _), (1, _)]) rfl ?_; intro a hf
                  refine rd hf rfl (yl_pickFF rfl hnr2 rfl) rfl rfl ?_; intro a hf
                  refine plan_nil ?_
                  exact ⟨(hf.sel [180, 14, 15, 13, 11, 10, 9, 8, 7, 5, 0, 1] (l' := [(180, _), (14, _), (15, _), (13, _), (11, _), (10, _), (9, _), (8, _), (7, _), (5, _), (0, _), (1, _)]) rfl).fix (rfl), hT⟩
                · have hgT3 : decide (j < 0) = false := by simpa using hg2
                  obtain ⟨i0, hi0, hji, hid0⟩ := hj2.resolve_right (fun h => by omega)
                  have hjx : s.L[j.toNat]? = some s.L[i0] := by rw [hji, Int.toNat_natCast]; exact List.getElem?_eq_getElem _
                  have holds := hold _ (List.getElem_mem hi0) hid0
                  have hj0 : decide (0 ≤ j) = true := by simp; omega
                  refine rdF hf rfl rfl rfl rfl (by first | exact hgT3 | simp [hgT3]) rfl (l' := [(154, _), (153, _), (152, _), (151, _), (16, _), (14, _), (15, _), (13, _), (11, _), (10, _), (9, _), (8, _), (7, _), (5, _), (0, _), (1, _)]) rfl ?_; intro a hf
                  refine rdF hf rfl rfl rfl rfl (by first | exact hgT3 | simp [hgT3]) rfl (l' := [(155, _), (154, _), (153, _), (152, _), (151, _), (16, _), (14, _), (15, _), (13, _), (11, _), (10, _), (9, _), (8, _), (7, _), (5, _), (0, _), (1, _)]) rfl ?_; intro a hf
                  refine rdF hf rfl rfl rfl rfl (by first | exact hgT3 | simp [hgT3]) rfl (l' := [(156, _), (155, _), (154, _), (153, _), (152, _), (151, _), (16, _), (14, _), (15, _), (13, _), (11, _), (10, _), (9, _), (8, _), (7, _), (5, _), (0, _), (1, _)]) rfl ?_; intro a hf
                  refine rdF hf rfl rfl rfl rfl (by first | exact hgT3 | simp [hgT3]) rfl (l' := [(157, _), (156, _), (155, _), (154, _), (153, _), (152, _), (151, _), (16, _), (14, _), (15, _), (13, _), (11, _), (10, _), (9, _), (8, _), (7, _), (5, _), (0, _), (1, _)]) rfl ?_; intro a hf
                  refine rdF hf rfl rfl rfl rfl (by first | exact hgT3 | simp [hgT3]) rfl (l' := [(158, _), (157, _), (156, _), (155, _), (154, _), (153, _), (152, _), (151, _), (16, _), (14, _), (15, _), (13, _), (11, _), (10, _), (9, _), (8, _), (7, _), (5, _), (0, _), (1, _)]) rfl ?_; intro a hf
                  refine rdF hf rfl rfl rfl rfl (by first | exact hgT3 | simp [hgT3]) rfl (l' := [(159, _), (158, _), (157, _), (156, _), (155, _), (154, _), (153, _), (152, _), (151, _), (16, _), (14, _), (15, _), (13, _), (11, _), (10, _), (9, _), (8, _), (7, _), (5, _), (0, _), (1, _)]) rfl ?_; intro a hf
                  refine rdF hf rfl rfl rfl rfl (by first | exact hgT3 | simp [hgT3]) rfl (l' := [(160, _), (159, _), (158, _), (157, _), (156, _), (155, _), (154, _), (153, _), (152, _), (151, _), (16, _), (14, _), (15, _), (13, _), (11, _), (10, _), (9, _), (8, _), (7, _), (5, _), (0, _), (1, _)]) rfl ?_; intro a hf
                  refine rd hf rfl (yl_pickFF rfl hgT3 rfl) rfl rfl ?_; intro a hf
                  refine rd hf rfl (yl_move rfl) rfl rfl ?_; intro a hf
                  refine rdT hf rfl rfl rfl rfl (rfl) (yl_move rfl) rfl (l' := [(163, _), (162, _), (161, _), (160, _), (159, _), (158, _), (157, _), (156, _), (155, _), (154, _), (153, _), (152, _), (151, _), (16, _), (14, _), (15, _), (13, _), (11, _), (10, _), (9, _), (8, _), (7, _), (5, _), (0, _), (1, _)]) rfl ?_; intro a hf
                  refine rdT hf rfl rfl rfl rfl (rfl) (yl_cmp rfl rfl rfl) rfl (l' := [(164, _), (163, _), (162, _), (161, _), (160, _), (159, _), (158, _), (157, _), (156, _), (155, _), (154, _), (153, _), (152, _), (151, _), (16, _), (14, _), (15, _), (13, _), (11, _), (10, _), (9, _), (8, _), (7, _), (5, _), (0, _), (1, _)]) rfl ?_; intro a hf
                  refine rdT hf rfl rfl rfl rfl (rfl) (yl_move rfl) rfl (l' := [(165, _), (164, _), (163, _), (162, _), (161, _), (160, _), (159, _), (158, _), (157, _), (156, _), (155, _), (154, _), (153, _), (152, _), (151, _), (16, _), (14, _), (15, _), (13, _), (11, _), (10, _), (9, _), (8, _), (7, _), (5, _), (0, _), (1, _)]) rfl ?_; intro a hf
                  refine rdT hf rfl rfl rfl rfl (by first | exact hj0 | simp [hj0]) (yl_move rfl) rfl (l' := [(166, _), (165, _), (164, _), (163, _), (162, _), (161, _), (160, _), (159, _), (158, _), (157, _), (156, _), (155, _), (154, _), (153, _), (152, _), (151, _), (16, _), (14, _), (15, _), (13, _), (11, _), (10, _), (9, _), (8, _), (7, _), (5, _), (0, _), (1, _)]) rfl ?_; intro a hf
                  refine rdT hf rfl rfl rfl rfl (by first | exact hj0 | simp [hj0]) (yl_move rfl) rfl (l' := [(167, _), (166, _), (165, _), (164, _), (163, _), (162, _), (161, _), (160, _), (159, _), (158, _), (157, _), (156, _), (155, _), (154, _), (153, _), (152, _), (151, _), (16, _), (14, _), (15, _), (13, _), (11, _), (10, _), (9, _), (8, _), (7, _), (5, _), (0, _), (1, _)]) rfl ?_; intro a hf
                  refine rdT hf rfl rfl rfl rfl (by first | exact hj0 | simp [hj0]) (yl_indexE rfl rfl Try.underlying35 sz_44 (hH1.els (.tail _ (.tail _ (.tail _ (.tail _ (.tail _ (.tail _ (.tail _ (.tail _ (.head _)))))))))) (by omega) (by omega)) rfl (l' := [(168, _), (167, _), (166, _), (165, _), (164, _), (163, _), (162, _), (161, _), (160, _), (159, _), (158, _), (157, _), (156, _), (155, _), (154, _), (153, _), (152, _), (151, _), (16, _), (14, _), (15, _), (13, _), (11, _), (10, _), (9, _), (8, _), (7, _), (5, _), (0, _), (1, _)]) rfl ?_; intro a hf
                  refine rdT hf rfl rfl rfl rfl (by first | exact hj0 | simp [hj0]) (yl_faddr Try.underlying44 rfl rfl sz_4 rfl) rfl (l' := [(169, _), (168, _), (167, _), (166, _), (165, _), (164, _), (163, _), (162, _), (161, _), (160, _), (159, _), (158, _), (157, _), (156, _), (155, _), (154, _), (153, _), (152, _), (151, _), (16, _), (14, _), (15, _), (13, _), (11, _), (10, _), (9, _), (8, _), (7, _), (5, _), (0, _), (1, _)]) rfl ?_; intro a hf
                  refine rdT hf rfl rfl rfl rfl (by first | exact hj0 | simp [hj0]) (yl_load Try.underlying4 rfl rfl ((hH1.els (.tail _ (.tail _ (.tail _ (.tail _ (.tail _ (.tail _ (.tail _ (.tail _ (.head _)))))))))).cell hjx (f := 5) rfl)) rfl (l' := [(170, _), (169, _), (168, _), (167, _), (166, _), (165, _), (164, _), (163, _), (162, _), (161, _), (160, _), (159, _), (158, _), (157, _), (156, _), (155, _), (154, _), (153, _), (152, _), (151, _), (16, _), (14, _), (15, _), (13, _), (11, _), (10, _), (9, _), (8, _), (7, _), (5, _), (0, _), (1, _)]) rfl ?_; intro a hf
                  refine rdT hf rfl rfl rfl rfl (rfl) (yl_pickTT rfl hj0 rfl) rfl (l' := [(171, _), (170, _), (169, _), (168, _), (167, _), (166, _), (165, _), (164, _), (163, _), (162, _), (161, _), (160, _), (159, _), (158, _), (157, _), (156, _), (155, _), (154, _), (153, _), (152, _), (151, _), (16, _), (14, _), (15, _), (13, _), (11, _), (10, _), (9, _), (8, _), (7, _), (5, _), (0, _), (1, _)]) rfl ?_; intro a hf
                  refine rdT hf rfl rfl rfl rfl (rfl) (yl_move rfl) rfl (l' := [(172, _), (171, _), (170, _), (169, _), (168, _), (167, _), (166, _), (165, _), (164, _), (163, _), (162, _), (161, _), (160, _), (159, _), (158, _), (157, _), (156, _), (155, _), (154, _), (153, _), (152, _), (151, _), (16, _), (14, _), (15, _), (13, _), (11, _), (10, _), (9, _), (8, _), (7, _), (5, _), (0, _), (1, _)]) rfl ?_; intro a hf
                  by_cases hg21 : s.L[i0].small = true
                  · have hgT4 : s.L[i0].small = true := by simpa using hg21
                    refine rdT hf rfl rfl rfl rfl (by first | exact hgT4 | simp [hgT4]) (yl_move rfl) rfl (l' := [(173, _), (172, _), (171, _), (170, _), (169, _), (168, _), (167, _), (166, _), (165, _), (164, _), (163, _), (162, _), (161, _), (160, _), (159, _), (158, _), (157, _), (156, _), (155, _), (154, _), (153, _), (152, _), (151, _), (16, _), (14, _), (15, _), (13, _), (11, _), (10, _), (9, _), (8, _), (7, _), (5, _), (0, _), (1, _)]) rfl ?_; intro a hf
                    refine rdT hf rfl rfl rfl rfl (by first | exact hgT4 | simp [hgT4]) (yl_move rfl) rfl (l' := [(174, _), (173, _), (172, _), (171, _), (170, _), (169, _), (168, _), (167, _), (166, _), (165, _), (164, _), (163, _), (162, _), (161, _), (160, _), (159, _), (158, _), (157, _), (156, _), (155, _), (154, _), (153, _), (152, _), (151, _), (16, _), (14, _), (15, _), (13, _), (11, _), (10, _), (9, _), (8, _), (7, _), (5, _), (0, _), (1, _)]) rfl ?_; intro a hf
                    refine rdT hf rfl rfl rfl rfl (by first | exact hgT4 | simp [hgT4]) (yl_indexE rfl rfl Try.underlying35 sz_44 (hH2.els (.tail _ (.head _))) (by omega) (by omega)) rfl (l' := [(175, _), (174, _), (173, _), (172, _), (171, _), (170, _), (169, _), (168, _), (167, _), (166, _), (165, _), (164, _), (163, _), (162, _), (161, _), (160, _), (159, _), (158, _), (157, _), (156, _), (155, _), (154, _), (153, _), (152, _), (151, _), (16, _), (14, _), (15, _), (13, _), (11, _), (10, _), (9, _), (8, _), (7, _), (5, _), (0, _), (1, _)]) rfl ?_; intro a hf
                    refine rdT hf rfl rfl rfl rfl (by first | exact hgT4 | simp [hgT4]) (yl_faddr Try.underlying44 rfl rfl sz_4 rfl) rfl (l' := [(176, _), (175, _), (174, _), (173, _), (172, _), (171, _), (170, _), (169, _), (168, _), (167, _), (166, _), (165, _), (164, _), (163, _), (162, _), (161, _), (160, _), (159, _), (158, _), (157, _), (156, _), (155, _), (154, _), (153, _), (152, _), (151, _), (16, _), (14, _), (15, _), (13, _), (11, _), (10, _), (9, _), (8, _), (7, _), (5, _), (0, _), (1, _)]) rfl ?_; intro a hf
                    refine rdT hf rfl rfl rfl rfl (by first | exact hgT4 | simp [hgT4]) (yl_load Try.underlying4 rfl rfl ((hH2.els (.tail _ (.head _))).cell hj (f := 5) rfl)) rfl (l' := [(177, _), (176, _), (175, _), (174, _), (173, _), (172, _), (171, _), (170, _), (169, _), (168, _), (167, _), (166, _), (165, _), (164, _), (163, _), (162, _), (161, _), (160, _), (159, _), (158, _), (157, _), (156, _), (155, _), (154, _), (153, _), (152, _), (151, _), (16, _), (14, _), (15, _), (13, _), (11, _), (10, _), (9, _), (8, _), (7, _), (5, _), (0, _), (1, _)]) rfl ?_; intro a hf
                    refine rdT hf rfl rfl rfl rfl (by first | exact hgT4 | simp [hgT4]) (yl_not rfl) rfl (l' := [(178, _), (177, _), (176, _), (175, _), (174, _), (173, _), (172, _), (171, _), (170, _), (169, _), (168, _), (167, _), (166, _), (165, _), (164, _), (163, _), (162, _), (161, _), (160, _), (159, _), (158, _), (157, _), (156, _), (155, _), (154, _), (153, _), (152, _), (151, _), (16, _), (14, _), (15, _), (13, _), (11, _), (10, _), (9, _), (8, _), (7, _), (5, _), (0, _), (1, _)]) rfl ?_; intro a hf
                    refine rdT hf rfl rfl rfl rfl (rfl) (yl_pickTT rfl hgT4 rfl) rfl (l' := [(179, _), (178, _), (177, _), (176, _), (175, _), (174, _), (173, _), (172, _), (171, _), (170, _), (169, _), (168, _), (167, _), (166, _), (165, _), (164, _), (163, _), (162, _), (161, _), (160, _), (159, _), (158, _), (157, _), (156, _), (155, _), (154, _), (153, _), (152, _), (151, _), (16, _), (14, _), (15, _), (13, _), (11, _), (10, _), (9, _), (8, _), (7, _), (5, _), (0, _), (1, _)]) rfl ?_; intro a hf
                    refine rd hf rfl (yl_pickFF rfl rfl rfl) rfl rfl ?_; intro a hf
                    refine plan_nil ?_
                    exact ⟨(hf.sel [180, 14, 15, 13, 11, 10, 9, 8, 7, 5, 0, 1] (l' := [(180, _), (14, _), (15, _), (13, _), (11, _), (10, _), (9, _), (8, _), (7, _), (5, _), (0, _), (1, _)]) rfl).fix (by simp [holds hg21]), hT⟩
                  · have hgT4 : s.L[i0].small = false := by simpa using hg21
                    refine rdF hf rfl rfl rfl rfl (by first | exact hgT4 | simp [hgT4]) rfl (l' := [(173, _), (172, _), (171, _), (170, _), (169, _), (168, _), (167, _), (166, _), (165, _), (164, _), (163, _), (162, _), (161, _), (160, _), (159, _), (158, _), (157, _), (156, _), (155, _), (154, _), (153, _), (152, _), (151, _), (16, _), (14, _), (15, _), (13, _), (11, _), (10, _), (9, _), (8, _), (7, _), (5, _), (0, _), (1, _)]) rfl ?_; intro a hf
                    refine rdF hf rfl rfl rfl rfl (by first | exact hgT4 | simp [hgT4]) rfl (l' := [(174, _), (173, _), (172, _), (171, _), (170, _), (169, _), (168, _), (167, _), (166, _), (165, _), (164, _), (163, _), (162, _), (161, _), (160, _), (159, _), (158, _), (157, _), (156, _), (155, _), (154, _), (153, _), (152, _), (151, _), (16, _), (14, _), (15, _), (13, _), (11, _), (10, _), (9, _), (8, _), (7, _), (5, _), (0, _), (1, _)]) rfl ?_; intro a hf
                    refine rdF hf rfl rfl rfl rfl (by first | exact hgT4 | simp [hgT4]) rfl (l' := [(175, _), (174, _), (173, _), (172, _), (171, _), (170, _), (169, _), (168, _), (167, _), (166, _), (165, _), (164, _), (163, _), (162, _), (161, _), (160, _), (159, _), (158, _), (157, _), (156, _), (155, _), (154, _), (153, _), (152, _), (151, _), (16, _), (14, _), (15, _), (13, _), (11, _), (10, _), (9, _), (8, _), (7, _), (5, _), (0, _), (1, _)]) rfl ?_; intro a hf
                    refine rdF hf rfl rfl rfl rfl (by first | exact hgT4 | simp [hgT4]) rfl (l' := [(176, _), (175, _), (174, _), (173, _), (172, _), (171, _), (170, _), (169, _), (168, _), (167, _), (166, _), (165, _), (164, _), (163, _), (162, _), (161, _), (160, _), (159, _), (158, _), (157, _), (156, _), (155, _), (154, _), (153, _), (152, _), (151, _), (16, _), (14, _), (15, _), (13, _), (11, _), (10, _), (9, _), (8, _), (7, _), (5, _), (0, _), (1, _)]) rfl ?_; intro a hf
                    refine rdF hf rfl rfl rfl rfl (by first | exact hgT4 | simp [hgT4]) rfl (l' := [(177, _), (176, _), (175, _), (174, _), (173, _), (172, _), (171, _), (170, _), (169, _), (168, _), (167, _), (166, _), (165, _), (164, _), (163, _), (162, _), (161, _), (160, _), (159, _), (158, _), (157, _), (156, _), (155, _), (154, _), (153, _), (152, _), (151, _), (16, _), (14, _), (15, _), (13, _), (11, _), (10, _), (9, _), (8, _), (7, _), (5, _), (0, _), (1, _)]) rfl ?_; intro a hf
                    refine rdF hf rfl rfl rfl rfl (by first | exact hgT4 | simp [hgT4]) rfl (l' := [(178, _), (177, _), (176, _), (175, _), (174, _), (173, _), (172, _), (171, _), (170, _), (169, _), (168, _), (167, _), (166, _), (165, _), (164, _), (163, _), (162, _), (161, _), (160, _), (159, _), (158, _), (157, _), (156, _), (155, _), (154, _), (153, _), (152, _), (151, _), (16, _), (14, _), (15, _), (13, _), (11, _), (10, _), (9, _), (8, _), (7, _), (5, _), (0, _), (1, _)]) rfl ?_; intro a hf
                    refine rdT hf rfl rfl rfl rfl (rfl) (yl_pickFF rfl hgT4 rfl) rfl (l' := [(179, _), (178, _), (177, _), (176, _), (175, _), (174, _), (173, _), (172, _), (171, _), (170, _), (169, _), (168, _), (167, _), (166, _), (165, _), (164, _), (163, _), (162, _), (161, _), (160, _), (159, _), (158, _), (157, _), (156, _), (155, _), (154, _), (153, _), (152, _), (151, _), (16, _), (14, _), (15, _), (13, _), (11, _), (10, _), (9, _), (8, _), (7, _), (5, _), (0, _), (1, _)]) rfl ?_; intro a hf
                    refine rd hf rfl (yl_pickFF rfl rfl rfl) rfl rfl ?_; intro a hf
                    refine plan_nil ?_
                    exact ⟨(hf.sel [180, 14, 15, 13, 11, 10, 9, 8, 7, 5, 0, 1] (l' := [(180, _), (14, _), (15, _), (13, _), (11, _), (10, _), (9, _), (8, _), (7, _), (5, _), (0, _), (1, _)]) rfl).fix (rfl), hT⟩
              · clear hf hf0 hT; intro a w hf hT
                refine wp_ifFF hf rfl (rfl) ?_
                refine wpIn_skip ?_
                refine wpIn_seq ?_
                -- region 30 (outright.go:85)
                refine wp_reg ([]) ([_, _, _, _, _, _, _, _, _, _] ++ rs) [(0, true)] mixed (by kernel_rfl) (hT) ?_; intro w hT
                refine rd hf rfl (yl_assign rfl) rfl rfl ?_; intro a hf
                refine plan_nil ?_
                refine wpIn_block ?_
                have hdl := (hD.els (R := [_]) (.head _)).len_le
                refine wp_loopS (σ := Nat) (fun jj => [(17, .int .i64 (jj : Nat))]) [(14, _), (15, _), (13, _), (11, _), (10, _), (9, _), (8, _), (7, _), (5, _), (0, _), (1, _)] (fun jj L => L = [] ∧ jj ≤ d.length) (fun jj => d.length - jj) 0 (L := []) (R := [_, _, _, _, _, _, _, _, _, _] ++ rs) (hf.sel [17, 14, 15, 13, 11, 10, 9, 8, 7, 5, 0, 1] rfl) (⟨rfl, Nat.zero_le _⟩) hT ?_
                clear hf hT; rintro jj a w L hf ⟨rfl, hjj⟩ hT
                replace hf : Fr _ [(17, .int .i64 (jj : Nat)), (14, _), (15, _), (13, _), (11, _), (10, _), (9, _), (8, _), (7, _), (5, _), (0, _), (1, _)] _ _ := hf
                refine wpIn_seq ?_
                refine wpIn_seq ?_
                -- region 31 (outright.go:85)
                refine wp_reg ([]) ([_, _, _, _, _, _, _, _, _, _] ++ rs) [(0, true), (1, true), (2, true), (3, true)] mixed (by kernel_rfl) (hT) ?_; intro w hT
                refine rd hf rfl (yl_move rfl) rfl rfl ?_; intro a hf
                refine rd hf rfl (yl_move rfl) rfl rfl ?_; intro a hf
                refine rd hf rfl (yl_lenE rfl Try.underlying37 (hD.els (.tail _ (.tail _ (.head _))))) rfl rfl ?_; intro a hf
                refine rd hf rfl (yl_cmp rfl rfl rfl) rfl rfl ?_; intro a hf
                refine plan_nil ?_
                replace hf := hf.sel [184, 17, 14, 15, 13, 11, 10, 9, 8, 7, 5, 0, 1] (l' := [(184, _), (17, _), (14, _), (15, _), (13, _), (11, _), (10, _), (9, _), (8, _), (7, _), (5, _), (0, _), (1, _)]) rfl
                refine wp_ifd hf rfl (fun hjl => ?_) (fun hjl => ?_)
                · -- then
                  have hltj : jj < d.length := by omega
                  have hj3 : d[jj]? = some d[jj] := List.getElem?_eq_getElem hltj
                  obtain ⟨x, hx1, hx2, hx3, hx4⟩ := hdrop _ (List.getElem_mem hltj)
                  have hx3b : (!decide (0 < cmpR x s'.L[k].r)) = false := by simp [hx3]
                  refine wpIn_skip ?_
                  refine wpIn_seq ?_
                  refine wpIn_block ?_
                  refine wpIn_seq ?_
                  -- region 33 (outright.go:86)
                  refine wp_reg ([]) ([_, _, _, _, _, _, _, _, _, _] ++ rs) [(0, true), (1, true), (2, true), (3, true), (4, true), (5, true), (6, true), (7, true), (8, true), (9, false), (10, false), (11, true)] mixed (by kernel_rfl) (hT) ?_; intro w hT
                  refine rd hf rfl (yl_move rfl) rfl rfl ?_; intro a hf
                  refine rd hf rfl (yl_move rfl) rfl rfl ?_; intro a hf
                  refine rd hf rfl (yl_move rfl) rfl rfl ?_; intro a hf
                  refine rd hf rfl (yl_indexE rfl rfl Try.underlying37 sz_2 (hD.els (.tail _ (.tail _ (.head _)))) (by omega) (by omega)) rfl rfl ?_; intro a hf
                  refine rd hf rfl (yl_load Try.underlying2 rfl rfl ((hD.els (.tail _ (.tail _ (.head _)))).cell hj3 (f := 0) rfl)) rfl rfl ?_; intro a hf
                  refine rd hf rfl (yl_lookupOkE kI Try.underlying29 zr_31 rfl rfl ⟨_, .head _, hM1⟩ (show _ = encR x from by rw [hx1]; rfl) (show _ = true from by rw [hx1]; rfl)) rfl rfl ?_; intro a hf
                  refine rd hf rfl (yl_move rfl) rfl rfl ?_; intro a hf
                  refine rd hf rfl (yl_extract rfl rfl) rfl rfl ?_; intro a hf
                  refine rd hf rfl (yl_extract rfl rfl) rfl rfl ?_; intro a hf
                  refine ef hf hT rfl rfl (ef_alloc zr_31) rfl (l' := [(195, _), (194, _), (187, _), (193, _), (192, _), (191, _), (190, _), (189, _), (188, _), (184, _), (17, _), (14, _), (15, _), (13, _), (11, _), (10, _), (9, _), (8, _), (7, _), (5, _), (0, _), (1, _)]) rfl ?_; rintro a w v L ⟨b2, rfl, rfl⟩ hf hT
                  refine efS hf hT rfl rfl (ef_storeW rfl rfl sz_31 rfl rfl rfl) ?_; rintro w L rfl hT
                  refine rd hf rfl (yl_assign rfl) rfl rfl ?_; intro a hf
                  refine plan_nil ?_
                  replace hf := hf.sel [19, 18, 17, 14, 15, 13, 11, 10, 9, 8, 7, 5, 0, 1] (l' := [(19, _), (18, _), (17, _), (14, _), (15, _), (13, _), (11, _), (10, _), (9, _), (8, _), (7, _), (5, _), (0, _), (1, _)]) rfl
                  refine wpIn_seq ?_
                  -- region 34: its branches meet again
                  have hf0 := hf.sel [17, 14, 15, 13, 11, 10, 9, 8, 7, 5, 0, 1] (l' := [(17, _), (14, _), (15, _), (13, _), (11, _), (10, _), (9, _), (8, _), (7, _), (5, _), (0, _), (1, _)]) rfl
                  refine wp_join hf0 hT 230 (.bool false) ?_ ?_
                  · clear hf0
                    -- region 34 (outright.go:87)
                    refine wp_reg ([]) ([_, _, _, _, _, _, _, _, _, _, _] ++ rs) [(0, true), (1, true), (2, true), (3, true), (4, true), (5, true), (6, true), (7, true), (8, true), (9, false), (10, true), (11, true), (12, true), (13, true), (14, true), (15, true), (16, true), (17, true), (18, true), (19, true), (20, true), (21, true), (22, true), (23, true), (24, true), (25, true), (26, true), (27, true), (28, true), (29, true), (30, true), (31, true), (32, true), (33, true), (34, true)] mixed (by kernel_rfl) (hT) ?_; intro w hT
                    refine rd hf rfl (yl_move rfl) rfl rfl ?_; intro a hf
                    refine rd hf rfl (yl_not rfl) rfl rfl ?_; intro a hf
                    refine rd hf rfl (yl_move rfl) rfl rfl ?_; intro a hf
                    refine rdT hf rfl rfl rfl rfl (rfl) (yl_loadB Try.underlying31 rfl sz_31 (vs := x.cells) (.head _) rfl (pt_self _ _) rfl rfl) rfl (l' := [(199, _), (198, _), (197, _), (196, _), (19, _), (18, _), (17, _), (14, _), (15, _), (13, _), (11, _), (10, _), (9, _), (8, _), (7, _), (5, _), (0, _), (1, _)]) rfl ?_; intro a hf
                    refine rdT hf rfl rfl rfl rfl (rfl) (yl_move rfl) rfl (l' := [(200, _), (199, _), (198, _), (197, _), (196, _), (19, _), (18, _), (17, _), (14, _), (15, _), (13, _), (11, _), (10, _), (9, _), (8, _), (7, _), (5, _), (0, _), (1, _)]) rfl ?_; intro a hf
                    refine rdT hf rfl rfl rfl rfl (rfl) (yl_move rfl) rfl (l' := [(201, _), (200, _), (199, _), (198, _), (197, _), (196, _), (19, _), (18, _), (17, _), (14, _), (15, _), (13, _), (11, _), (10, _), (9, _), (8, _), (7, _), (5, _), (0, _), (1, _)]) rfl ?_; intro a hf
                    refine rdT hf rfl rfl rfl rfl (rfl) (yl_indexE rfl rfl Try.underlying35 sz_44 (hH2.els (.tail _ (.tail _ (.head _)))) (by omega) (by omega)) rfl (l' := [(202, _), (201, _), (200, _), (199, _), (198, _), (197, _), (196, _), (19, _), (18, _), (17, _), (14, _), (15, _), (13, _), (11, _), (10, _), (9, _), (8, _), (7, _), (5, _), (0, _), (1, _)]) rfl ?_; intro a hf
                    refine rdT hf rfl rfl rfl rfl (rfl) (yl_faddr Try.underlying44 rfl rfl sz_31 rfl) rfl (l' := [(203, _), (202, _), (201, _), (200, _), (199, _), (198, _), (197, _), (196, _), (19, _), (18, _), (17, _), (14, _), (15, _), (13, _), (11, _), (10, _), (9, _), (8, _), (7, _), (5, _), (0, _), (1, _)]) rfl ?_; intro a hf
                    refine rdT hf rfl rfl rfl rfl (rfl) (yl_loadA Try.underlying31 rfl sz_31 rfl (((hH2.els (.tail _ (.tail _ (.head _)))).row hj).part 0 5) rfl) rfl (l' := [(204, _), (203, _), (202, _), (201, _), (200, _), (199, _), (198, _), (197, _), (196, _), (19, _), (18, _), (17, _), (14, _), (15, _), (13, _), (11, _), (10, _), (9, _), (8, _), (7, _), (5, _), (0, _), (1, _)]) rfl ?_; intro a hf
                    refine ef_call hf rfl (by rw [wanted_some hf rfl rfl rfl rfl]; first | rfl | simp | decide) rfl rfl (by kernel_rfl) (Spec.frame (L2 := []) (lesser_spec x s'.L[k].r hx2 hho hT)) rfl (l' := [(204, _), (203, _), (202, _), (201, _), (200, _), (199, _), (198, _), (197, _), (196, _), (19, _), (18, _), (17, _), (14, _), (15, _), (13, _), (11, _), (10, _), (9, _), (8, _), (7, _), (5, _), (0, _), (1, _)]) rfl ?_; rintro a w v L ⟨L1, ⟨rfl, rfl⟩, rfl⟩ hf hT
                    refine rdT hf rfl rfl rfl rfl (rfl) (yl_not rfl) rfl (l' := [(206, _), (205, _), (204, _), (203, _), (202, _), (201, _), (200, _), (199, _), (198, _), (197, _), (196, _), (19, _), (18, _), (17, _), (14, _), (15, _), (13, _), (11, _), (10, _), (9, _), (8, _), (7, _), (5, _), (0, _), (1, _)]) rfl ?_; intro a hf
                    refine rd hf rfl (yl_pickFF rfl rfl rfl) rfl rfl ?_; intro a hf
                    refine rd hf rfl (yl_move rfl) rfl rfl ?_; intro a hf
                    refine rdT hf rfl rfl rfl rfl (by first | exact hx3b | simp [hx3b]) (yl_move rfl) rfl (l' := [(209, _), (208, _), (207, _), (206, _), (205, _), (204, _), (203, _), (202, _), (201, _), (200, _), (199, _), (198, _), (197, _), (196, _), (19, _), (18, _), (17, _), (14, _), (15, _), (13, _), (11, _), (10, _), (9, _), (8, _), (7, _), (5, _), (0, _), (1, _)]) rfl ?_; intro a hf
                    refine rdT hf rfl rfl rfl rfl (by first | exact hx3b | simp [hx3b]) (yl_move rfl) rfl (l' := [(210, _), (209, _), (208, _), (207, _), (206, _), (205, _), (204, _), (203, _), (202, _), (201, _), (200, _), (199, _), (198, _), (197, _), (196, _), (19, _), (18, _), (17, _), (14, _), (15, _), (13, _), (11, _), (10, _), (9, _), (8, _), (7, _), (5, _), (0, _), (1, _)]) rfl ?_; intro a hf
                    refine rdT hf rfl rfl rfl rfl (by first | exact hx3b | simp [hx3b]) (yl_indexE rfl rfl Try.underlying35 sz_44 (hH2.els (.tail _ (.tail _ (.head _)))) (by omega) (by omega)) rfl (l' := [(211, _), (210, _), (209, _), (208, _), (207, _), (206, _), (205, _), (204, _), (203, _), (202, _), (201, _), (200, _), (199, _), (198, _), (197, _), (196, _), (19, _), (18, _), (17, _), (14, _), (15, _), (13, _), (11, _), (10, _), (9, _), (8, _), (7, _), (5, _), (0, _), (1, _)]) rfl ?_; intro a hf
                    refine rdT hf rfl rfl rfl rfl (by first | exact hx3b | simp [hx3b]) (yl_faddr Try.underlying44 rfl rfl sz_4 rfl) rfl (l' := [(212, _), (211, _), (210, _), (209, _), (208, _), (207, _), (206, _), (205, _), (204, _), (203, _), (202, _), (201, _), (200, _), (199, _), (198, _), (197, _), (196, _), (19, _), (18, _), (17, _), (14, _), (15, _), (13, _), (11, _), (10, _), (9, _), (8, _), (7, _), (5, _), (0, _), (1, _)]) rfl ?_; intro a hf
                    refine rdT hf rfl rfl rfl rfl (by first | exact hx3b | simp [hx3b]) (yl_load Try.underlying4 rfl rfl ((hH2.els (.tail _ (.tail _ (.head _)))).cell hj (f := 5) rfl)) rfl (l' := [(213, _), (212, _), (211, _), (210, _), (209, _), (208, _), (207, _), (206, _), (205, _), (204, _), (203, _), (202, _), (201, _), (200, _), (199, _), (198, _), (197, _), (196, _), (19, _), (18, _), (17, _), (14, _), (15, _), (13, _), (11, _), (10, _), (9, _), (8, _), (7, _), (5, _), (0, _), (1, _)]) rfl ?_; intro a hf
                    refine rdT hf rfl rfl rfl rfl (by first | exact hx3b | simp [hx3b]) (yl_not rfl) rfl (l' := [(214, _), (213, _), (212, _), (211, _), (210, _), (209, _), (208, _), (207, _), (206, _), (205, _), (204, _), (203, _), (202, _), (201, _), (200, _), (199, _), (198, _), (197, _), (196, _), (19, _), (18, _), (17, _), (14, _), (15, _), (13, _), (11, _), (10, _), (9, _), (8, _), (7, _), (5, _), (0, _), (1, _)]) rfl ?_; intro a hf
                    refine rdT hf rfl rfl rfl rfl (by first | exact hx3b | simp [hx3b]) (yl_move rfl) rfl (l' := [(215, _), (214, _), (213, _), (212, _), (211, _), (210, _), (209, _), (208, _), (207, _), (206, _), (205, _), (204, _), (203, _), (202, _), (201, _), (200, _), (199, _), (198, _), (197, _), (196, _), (19, _), (18, _), (17, _), (14, _), (15, _), (13, _), (11, _), (10, _), (9, _), (8, _), (7, _), (5, _), (0, _), (1, _)]) rfl ?_; intro a hf
                    by_cases hg19 : (!s'.L[k].small) = true
                    · have hgT5 : (!s'.L[k].small) = true := by simpa using hg19
                      have hnsq : ¬ s'.L[k].r.packed < s'.L[k].r.size := fun h => by cases hq : s'.L[k].small <;> simp_all [Hld.sq]
                      refine rdT hf rfl rfl rfl rfl (by first | exact hgT5 | simp [hgT5]) (yl_move rfl) rfl (l' := [(216, _), (215, _), (214, _), (213, _), (212, _), (211, _), (210, _), (209, _), (208, _), (207, _), (206, _), (205, _), (204, _), (203, _), (202, _), (201, _), (200, _), (199, _), (198, _), (197, _), (196, _), (19, _), (18, _), (17, _), (14, _), (15, _), (13, _), (11, _), (10, _), (9, _), (8, _), (7, _), (5, _), (0, _), (1, _)]) rfl ?_; intro a hf
                      refine rdT hf rfl rfl rfl rfl (by first | exact hgT5 | simp [hgT5]) (yl_move rfl) rfl (l' := [(217, _), (216, _), (215, _), (214, _), (213, _), (212, _), (211, _), (210, _), (209, _), (208, _), (207, _), (206, _), (205, _), (204, _), (203, _), (202, _), (201, _), (200, _), (199, _), (198, _), (197, _), (196, _), (19, _), (18, _), (17, _), (14, _), (15, _), (13, _), (11, _), (10, _), (9, _), (8, _), (7, _), (5, _), (0, _), (1, _)]) rfl ?_; intro a hf
                      refine rdT hf rfl rfl rfl rfl (by first | exact hgT5 | simp [hgT5]) (yl_indexE rfl rfl Try.underlying35 sz_44 (hH2.els (.tail _ (.tail _ (.head _)))) (by omega) (by omega)) rfl (l' := [(218, _), (217, _), (216, _), (215, _), (214, _), (213, _), (212, _), (211, _), (210, _), (209, _), (208, _), (207, _), (206, _), (205, _), (204, _), (203, _), (202, _), (201, _), (200, _), (199, _), (198, _), (197, _), (196, _), (19, _), (18, _), (17, _), (14, _), (15, _), (13, _), (11, _), (10, _), (9, _), (8, _), (7, _), (5, _), (0, _), (1, _)]) rfl ?_; intro a hf
                      refine rdT hf rfl rfl rfl rfl (by first | exact hgT5 | simp [hgT5]) (yl_faddr Try.underlying44 rfl rfl sz_31 rfl) rfl (l' := [(219, _), (218, _), (217, _), (216, _), (215, _), (214, _), (213, _), (212, _), (211, _), (210, _), (209, _), (208, _), (207, _), (206, _), (205, _), (204, _), (203, _), (202, _), (201, _), (200, _), (199, _), (198, _), (197, _), (196, _), (19, _), (18, _), (17, _), (14, _), (15, _), (13, _), (11, _), (10, _), (9, _), (8, _), (7, _), (5, _), (0, _), (1, _)]) rfl ?_; intro a hf
                      refine rdT hf rfl rfl rfl rfl (by first | exact hgT5 | simp [hgT5]) (yl_faddr Try.underlying31 rfl rfl sz_2 rfl) rfl (l' := [(220, _), (219, _), (218, _), (217, _), (216, _), (215, _), (214, _), (213, _), (212, _), (211, _), (210, _), (209, _), (208, _), (207, _), (206, _), (205, _), (204, _), (203, _), (202, _), (201, _), (200, _), (199, _), (198, _), (197, _), (196, _), (19, _), (18, _), (17, _), (14, _), (15, _), (13, _), (11, _), (10, _), (9, _), (8, _), (7, _), (5, _), (0, _), (1, _)]) rfl ?_; intro a hf
                      refine rdT hf rfl rfl rfl rfl (by first | exact hgT5 | simp [hgT5]) (yl_load Try.underlying2 rfl rfl ((hH2.els (.tail _ (.tail _ (.head _)))).cell hj (f := 4) rfl)) rfl (l' := [(221, _), (220, _), (219, _), (218, _), (217, _), (216, _), (215, _), (214, _), (213, _), (212, _), (211, _), (210, _), (209, _), (208, _), (207, _), (206, _), (205, _), (204, _), (203, _), (202, _), (201, _), (200, _), (199, _), (198, _), (197, _), (196, _), (19, _), (18, _), (17, _), (14, _), (15, _), (13, _), (11, _), (10, _), (9, _), (8, _), (7, _), (5, _), (0, _), (1, _)]) rfl ?_; intro a hf
                      refine rdT hf rfl rfl rfl rfl (by first | exact hgT5 | simp [hgT5]) (yl_move rfl) rfl (l' := [(222, _), (221, _), (220, _), (219, _), (218, _), (217, _), (216, _), (215, _), (214, _), (213, _), (212, _), (211, _), (210, _), (209, _), (208, _), (207, _), (206, _), (205, _), (204, _), (203, _), (202, _), (201, _), (200, _), (199, _), (198, _), (197, _), (196, _), (19, _), (18, _), (17, _), (14, _), (15, _), (13, _), (11, _), (10, _), (9, _), (8, _), (7, _), (5, _), (0, _), (1, _)]) rfl ?_; intro a hf
                      refine rdT hf rfl rfl rfl rfl (by first | exact hgT5 | simp [hgT5]) (yl_move rfl) rfl (l' := [(223, _), (222, _), (221, _), (220, _), (219, _), (218, _), (217, _), (216, _), (215, _), (214, _), (213, _), (212, _), (211, _), (210, _), (209, _), (208, _), (207, _), (206, _), (205, _), (204, _), (203, _), (202, _), (201, _), (200, _), (199, _), (198, _), (197, _), (196, _), (19, _), (18, _), (17, _), (14, _), (15, _), (13, _), (11, _), (10, _), (9, _), (8, _), (7, _), (5, _), (0, _), (1, _)]) rfl ?_; intro a hf
                      refine rdT hf rfl rfl rfl rfl (by first | exact hgT5 | simp [hgT5]) (yl_indexE rfl rfl Try.underlying35 sz_44 (hH2.els (.tail _ (.tail _ (.head _)))) (by omega) (by omega)) rfl (l' := [(224, _), (223, _), (222, _), (221, _), (220, _), (219, _), (218, _), (217, _), (216, _), (215, _), (214, _), (213, _), (212, _), (211, _), (210, _), (209, _), (208, _), (207, _), (206, _), (205, _), (204, _), (203, _), (202, _), (201, _), (200, _), (199, _), (198, _), (197, _), (196, _), (19, _), (18, _), (17, _), (14, _), (15, _), (13, _), (11, _), (10, _), (9, _), (8, _), (7, _), (5, _), (0, _), (1, _)]) rfl ?_; intro a hf
                      refine rdT hf rfl rfl rfl rfl (by first | exact hgT5 | simp [hgT5]) (yl_faddr Try.underlying44 rfl rfl sz_31 rfl) rfl (l' := [(225, _), (224, _), (223, _), (222, _), (221, _), (220, _), (219, _), (218, _), (217, _), (216, _), (215, _), (214, _), (213, _), (212, _), (211, _), (210, _), (209, _), (208, _), (207, _), (206, _), (205, _), (204, _), (203, _), (202, _), (201, _), (200, _), (199, _), (198, _), (197, _), (196, _), (19, _), (18, _), (17, _), (14, _), (15, _), (13, _), (11, _), (10, _), (9, _), (8, _), (7, _), (5, _), (0, _), (1, _)]) rfl ?_; intro a hf
                      refine rdT hf rfl rfl rfl rfl (by first | exact hgT5 | simp [hgT5]) (yl_faddr Try.underlying31 rfl rfl sz_2 rfl) rfl (l' := [(226, _), (225, _), (224, _), (223, _), (222, _), (221, _), (220, _), (219, _), (218, _), (217, _), (216, _), (215, _), (214, _), (213, _), (212, _), (211, _), (210, _), (209, _), (208, _), (207, _), (206, _), (205, _), (204, _), (203, _), (202, _), (201, _), (200, _), (199, _), (198, _), (197, _), (196, _), (19, _), (18, _), (17, _), (14, _), (15, _), (13, _), (11, _), (10, _), (9, _), (8, _), (7, _), (5, _), (0, _), (1, _)]) rfl ?_; intro a hf
                      refine rdT hf rfl rfl rfl rfl (by first | exact hgT5 | simp [hgT5]) (yl_load Try.underlying2 rfl rfl ((hH2.els (.tail _ (.tail _ (.head _)))).cell hj (f := 3) rfl)) rfl (l' := [(227, _), (226, _), (225, _), (224, _), (223, _), (222, _), (221, _), (220, _), (219, _), (218, _), (217, _), (216, _), (215, _), (214, _), (213, _), (212, _), (211, _), (210, _), (209, _), (208, _), (207, _), (206, _), (205, _), (204, _), (203, _), (202, _), (201, _), (200, _), (199, _), (198, _), (197, _), (196, _), (19, _), (18, _), (17, _), (14, _), (15, _), (13, _), (11, _), (10, _), (9, _), (8, _), (7, _), (5, _), (0, _), (1, _)]) rfl ?_; intro a hf
                      refine rdT hf rfl rfl rfl rfl (by first | exact hgT5 | simp [hgT5]) (yl_cmp rfl rfl rfl) rfl (l' := [(228, _), (227, _), (226, _), (225, _), (224, _), (223, _), (222, _), (221, _), (220, _), (219, _), (218, _), (217, _), (216, _), (215, _), (214, _), (213, _), (212, _), (211, _), (210, _), (209, _), (208, _), (207, _), (206, _), (205, _), (204, _), (203, _), (202, _), (201, _), (200, _), (199, _), (198, _), (197, _), (196, _), (19, _), (18, _), (17, _), (14, _), (15, _), (13, _), (11, _), (10, _), (9, _), (8, _), (7, _), (5, _), (0, _), (1, _)]) rfl ?_; intro a hf
                      refine rdT hf rfl rfl rfl rfl (by first | exact hx3b | simp [hx3b]) (yl_pickTT rfl hgT5 rfl) rfl (l' := [(229, _), (228, _), (227, _), (226, _), (225, _), (224, _), (223, _), (222, _), (221, _), (220, _), (219, _), (218, _), (217, _), (216, _), (215, _), (214, _), (213, _), (212, _), (211, _), (210, _), (209, _), (208, _), (207, _), (206, _), (205, _), (204, _), (203, _), (202, _), (201, _), (200, _), (199, _), (198, _), (197, _), (196, _), (19, _), (18, _), (17, _), (14, _), (15, _), (13, _), (11, _), (10, _), (9, _), (8, _), (7, _), (5, _), (0, _), (1, _)]) rfl ?_; intro a hf
                      refine rd hf rfl (yl_pickFF rfl hx3b rfl) rfl rfl ?_; intro a hf
                      refine plan_nil ?_
                      exact ⟨(hf.sel [230, 17, 14, 15, 13, 11, 10, 9, 8, 7, 5, 0, 1] (l' := [(230, _), (17, _), (14, _), (15, _), (13, _), (11, _), (10, _), (9, _), (8, _), (7, _), (5, _), (0, _), (1, _)]) rfl).fix (by simp [hnsq]), hT⟩
                    · have hgT5 : (!s'.L[k].small) = false := by simpa using hg19
                      refine rdF hf rfl rfl rfl rfl (by first | exact hgT5 | simp [hgT5]) rfl (l' := [(216, _), (215, _), (214, _), (213, _), (212, _), (211, _), (210, _), (209, _), (208, _), (207, _), (206, _), (205, _), (204, _), (203, _), (202, _), (201, _), (200, _), (199, _), (198, _), (197, _), (196, _), (19, _), (18, _), (17, _), (14, _), (15, _), (13, _), (11, _), (10, _), (9, _), (8, _), (7, _), (5, _), (0, _), (1, _)]) rfl ?_; intro a hf
                      refine rdF hf rfl rfl rfl rfl (by first | exact hgT5 | simp [hgT5]) rfl (l' := [(217, _), (216, _), (215, _), (214, _), (213, _), (212, _), (211, _), (210, _), (209, _), (208, _), (207, _), (206, _), (205, _), (204, _), (203, _), (202, _), (201, _), (200, _), (199, _), (198, _), (197, _), (196, _), (19, _), (18, _), (17, _), (14, _), (15, _), (13, _), (11, _), (10, _), (9, _), (8, _), (7, _), (5, _), (0, _), (1, _)]) rfl ?_; intro a hf
                      refine rdF hf rfl rfl rfl rfl (by first | exact hgT5 | simp [hgT5]) rfl (l' := [(218, _), (217, _), (216, _), (215, _), (214, _), (213, _), (212, _), (211, _), (210, _), (209, _), (208, _), (207, _), (206, _), (205, _), (204, _), (203, _), (202, _), (201, _), (200, _), (199, _), (198, _), (197, _), (196, _), (19, _), (18, _), (17, _), (14, _), (15, _), (13, _), (11, _), (10, _), (9, _), (8, _), (7, _), (5, _), (0, _), (1, _)]) rfl ?_; intro a hf
                      refine rdF hf rfl rfl rfl rfl (by first | exact hgT5 | simp [hgT5]) rfl (l' := [(219, _), (218, _), (217, _), (216, _), (215, _), (214, _), (213, _), (212, _), (211, _), (210, _), (209, _), (208, _), (207, _), (206, _), (205, _), (204, _), (203, _), (202, _), (201, _), (200, _), (199, _), (198, _), (197, _), (196, _), (19, _), (18, _), (17, _), (14, _), (15, _), (13, _), (11, _), (10, _), (9, _), (8, _), (7, _), (5, _), (0, _), (1, _)]) rfl ?_; intro a hf
                      refine rdF hf rfl rfl rfl rfl (by first | exact hgT5 | simp [hgT5]) rfl (l' := [(220, _), (219, _), (218, _), (217, _), (216, _), (215, _), (214, _), (213, _), (212, _), (211, _), (210, _), (209, _), (208, _), (207, _), (206, _), (205, _), (204, _), (203, _), (202, _), (201, _), (200, _), (199, _), (198, _), (197, _), (196, _), (19, _), (18, _), (17, _), (14, _), (15, _), (13, _), (11, _), (10, _), (9, _), (8, _), (7, _), (5, _), (0, _), (1, _)]) rfl ?_; intro a hf
                      refine rdF hf rfl rfl rfl rfl (by first | exact hgT5 | simp [hgT5]) rfl (l' := [(221, _), (220, _), (219, _), (218, _), (217, _), (216, _), (215, _), (214, _), (213, _), (212, _), (211, _), (210, _), (209, _), (208, _), (207, _), (206, _), (205, _), (204, _), (203, _), (202, _), (201, _), (200, _), (199, _), (198, _), (197, _), (196, _), (19, _), (18, _), (17, _), (14, _), (15, _), (13, _), (11, _), (10, _), (9, _), (8, _), (7, _), (5, _), (0, _), (1, _)]) rfl ?_; intro a hf
                      refine rdF hf rfl rfl rfl rfl (by first | exact hgT5 | simp [hgT5]) rfl (l' := [(222, _), (221, _), (220, _), (219, _), (218, _), (217, _), (216, _), (215, _), (214, _), (213, _), (212, _), (211, _), (210, _), (209, _), (208, _), (207, _), (206, _), (205, _), (204, _), (203, _), (202, _), (201, _), (200, _), (199, _), (198, _), (197, _), (196, _), (19, _), (18, _), (17, _), (14, _), (15, _), (13, _), (11, _), (10, _), (9, _), (8, _), (7, _), (5, _), (0, _), (1, _)]) rfl ?_; intro a hf
                      refine rdF hf rfl rfl rfl rfl (by first | exact hgT5 | simp [hgT5]) rfl (l' := [(223, _), (222, _), (221, _), (220, _), (219, _), (218, _), (217, _), (216, _), (215, _), (214, _), (213, _), (212, _), (211, _), (210, _), (209, _), (208, _), (207, _), (206, _), (205, _), (204, _), (203, _), (202, _), (201, _), (200, _), (199, _), (198, _), (197, _), (196, _), (19, _), (18, _), (17, _), (14, _), (15, _), (13, _), (11, _), (10, _), (9, _), (8, _), (7, _), (5, _), (0, _), (1, _)]) rfl ?_; intro a hf
                      refine rdF hf rfl rfl rfl rfl (by first | exact hgT5 | simp [hgT5]) rfl (l' := [(224, _), (223, _), (222, _), (221, _), (220, _), (219, _), (218, _), (217, _), (216, _), (215, _), (214, _), (213, _), (212, _), (211, _), (210, _), (209, _), (208, _), (207, _), (206, _), (205, _), (204, _), (203, _), (202, _), (201, _), (200, _), (199, _), (198, _), (197, _), (196, _), (19, _), (18, _), (17, _), (14, _), (15, _), (13, _), (11, _), (10, _), (9, _), (8, _), (7, _), (5, _), (0, _), (1, _)]) rfl ?_; intro a hf
                      refine rdF hf rfl rfl rfl rfl (by first | exact hgT5 | simp [hgT5]) rfl (l' := [(225, _), (224, _), (223, _), (222, _), (221, _), (220, _), (219, _), (218, _), (217, _), (216, _), (215, _), (214, _), (213, _), (212, _), (211, _), (210, _), (209, _), (208, _), (207, _), (206, _), (205, _), (204, _), (203, _), (202, _), (201, _), (200, _), (199, _), (198, _), (197, _), (196, _), (19, _), (18, _), (17, _), (14, _), (15, _), (13, _), (11, _), (10, _), (9, _), (8, _), (7, _), (5, _), (0, _), (1, _)]) rfl ?_; intro a hf
                      refine rdF hf rfl rfl rfl rfl (by first | exact hgT5 | simp [hgT5]) rfl (l' := [(226, _), (225, _), (224, _), (223, _), (222, _), (221, _), (220, _), (219, _), (218, _), (217, _), (216, _), (215, _), (214, _), (213, _), (212, _), (211, _), (210, _), (209, _), (208, _), (207, _), (206, _), (205, _), (204, _), (203, _), (202, _), (201, _), (200, _), (199, _), (198, _), (197, _), (196, _), (19, _), (18, _), (17, _), (14, _), (15, _), (13, _), (11, _), (10, _), (9, _), (8, _), (7, _), (5, _), (0, _), (1, _)]) rfl ?_; intro a hf
                      refine rdF hf rfl rfl rfl rfl (by first | exact hgT5 | simp [hgT5]) rfl (l' := [(227, _), (226, _), (225, _), (224, _), (223, _), (222, _), (221, _), (220, _), (219, _), (218, _), (217, _), (216, _), (215, _), (214, _), (213, _), (212, _), (211, _), (210, _), (209, _), (208, _), (207, _), (206, _), (205, _), (204, _), (203, _), (202, _), (201, _), (200, _), (199, _), (198, _), (197, _), (196, _), (19, _), (18, _), (17, _), (14, _), (15, _), (13, _), (11, _), (10, _), (9, _), (8, _), (7, _), (5, _), (0, _), (1, _)]) rfl ?_; intro a hf
                      refine rdF hf rfl rfl rfl rfl (by first | exact hgT5 | simp [hgT5]) rfl (l' := [(228, _), (227, _), (226, _), (225, _), (224, _), (223, _), (222, _), (221, _), (220, _), (219, _), (218, _), (217, _), (216, _), (215, _), (214, _), (213, _), (212, _), (211, _), (210, _), (209, _), (208, _), (207, _), (206, _), (205, _), (204, _), (203, _), (202, _), (201, _), (200, _), (199, _), (198, _), (197, _), (196, _), (19, _), (18, _), (17, _), (14, _), (15, _), (13, _), (11, _), (10, _), (9, _), (8, _), (7, _), (5, _), (0, _), (1, _)]) rfl ?_; intro a hf
                      refine rdT hf rfl rfl rfl rfl (by first | exact hx3b | simp [hx3b]) (yl_pickFF rfl hgT5 rfl) rfl (l' := [(229, _), (228, _), (227, _), (226, _), (225, _), (224, _), (223, _), (222, _), (221, _), (220, _), (219, _), (218, _), (217, _), (216, _), (215, _), (214, _), (213, _), (212, _), (211, _), (210, _), (209, _), (208, _), (207, _), (206, _), (205, _), (204, _), (203, _), (202, _), (201, _), (200, _), (199, _), (198, _), (197, _), (196, _), (19, _), (18, _), (17, _), (14, _), (15, _), (13, _), (11, _), (10, _), (9, _), (8, _), (7, _), (5, _), (0, _), (1, _)]) rfl ?_; intro a hf
                      refine rd hf rfl (yl_pickFF rfl hx3b rfl) rfl rfl ?_; intro a hf
                      refine plan_nil ?_
                      exact ⟨(hf.sel [230, 17, 14, 15, 13, 11, 10, 9, 8, 7, 5, 0, 1] (l' := [(230, _), (17, _), (14, _), (15, _), (13, _), (11, _), (10, _), (9, _), (8, _), (7, _), (5, _), (0, _), (1, _)]) rfl).fix (rfl), hT⟩
                  · clear hf hf0 hT; intro a w hf hT
                    refine wp_ifFF hf rfl (rfl) ?_
                    refine wpIn_skip ?_
                    -- region 32 (outright.go:85)
                    refine wp_reg ([]) ([_, _, _, _, _, _, _, _, _, _, _] ++ rs) [(0, true), (1, true), (2, true)] mixed (by kernel_rfl) (hT) ?_; intro w hT
                    refine rd hf rfl (yl_move rfl) rfl rfl ?_; intro a hf
                    refine rd hf rfl (yl_add rfl rfl (by unfold inI64; omega)) rfl rfl ?_; intro a hf
                    refine rw_ hf rfl (yl_assign rfl) rfl (l' := [(17, _), (186, _), (185, _), (230, _), (14, _), (15, _), (13, _), (11, _), (10, _), (9, _), (8, _), (7, _), (5, _), (0, _), (1, _)]) rfl ?_; intro a hf
                    refine plan_nil ?_
                    replace hf := hf.sel [17, 14, 15, 13, 11, 10, 9, 8, 7, 5, 0, 1] (l' := [(17, _), (14, _), (15, _), (13, _), (11, _), (10, _), (9, _), (8, _), (7, _), (5, _), (0, _), (1, _)]) rfl
                    exact ⟨jj + 1, _, hf.sel [17, 14, 15, 13, 11, 10, 9, 8, 7, 5, 0, 1] rfl, ⟨rfl, by omega⟩, (hT.brings [0]).tail, by first | omega | (dsimp only; omega)⟩
                · -- else
                  refine wpIn_exit ?_
                  refine then_exit ?_
                  refine then_exit ?_
                  refine inBlock_hit ?_
                  -- region 23 (outright.go:75)
                  refine wp_reg ([]) ([_, _, _, _, _, _, _, _, _, _] ++ rs) [(0, true), (1, true), (2, true)] mixed (by kernel_rfl) (hT) ?_; intro w hT
                  refine rd hf rfl (yl_move rfl) rfl rfl ?_; intro a hf
                  refine rd hf rfl (yl_add rfl rfl (by unfold inI64; omega)) rfl rfl ?_; intro a hf
                  refine rw_ hf rfl (yl_assign rfl) rfl (l' := [(15, _), (102, _), (101, _), (184, _), (17, _), (14, _), (13, _), (11, _), (10, _), (9, _), (8, _), (7, _), (5, _), (0, _), (1, _)]) rfl ?_; intro a hf
                  refine plan_nil ?_
                  replace hf := hf.sel [15, 14, 13, 11, 10, 9, 8, 7, 5, 0, 1] (l' := [(15, _), (14, _), (13, _), (11, _), (10, _), (9, _), (8, _), (7, _), (5, _), (0, _), (1, _)]) rfl
                  exact ⟨k + 1, _, (by have h := hf.sel [14, 15, 13, 11, 10, 9, 8, 7, 5, 0, 1] (l' := [(14, _), (15, _), (13, _), (11, _), (10, _), (9, _), (8, _), (7, _), (5, _), (0, _), (1, _)]) rfl; rw [sumB_take hltk]; exact h), ⟨rfl, by omega⟩, hT, by first | omega | (dsimp only; omega)⟩
          · -- else
            obtain rfl : k = s'.L.length := by omega
            refine wpIn_exit ?_
            refine then_exit ?_
            refine then_exit ?_
            refine inBlock_hit ?_
            refine wpIn_seq ?_
            have hus2 := hK2.us
            have hcp2 := hK2.cp
            have hsu : sumB (s'.L.take s'.L.length) = s'.used := by rw [List.take_length]; exact hI2.us.symm
            have hsub : decide (sumB (s'.L.take s'.L.length) ≠ s'.used) = false := decide_eq_false (not_not_intro hsu)
            -- region 36 (outright.go:92)
            refine wp_reg ([]) ([_, _, _, _, _, _, _, _, _, _] ++ rs) [(0, true), (1, true), (2, false), (3, true), (4, true), (5, true), (6, true), (7, true), (8, true), (9, true), (10, true), (11, true)] mixed (by kernel_rfl) (hT) ?_; intro w hT
            refine rd hf rfl (yl_move rfl) rfl rfl ?_; intro a hf
            refine rd hf rfl (yl_move rfl) rfl rfl ?_; intro a hf
            refine ef_call hf rfl (wanted_none _ _ rfl) rfl rfl (by kernel_rfl) (Spec.frame (L2 := []) (Used_spec b s' (hBp.inn (fun x hx => by rcases mem5 hx with rfl | rfl | rfl | rfl | rfl; exact .tail _ (.tail _ (.tail _ (.head _))); exact .tail _ (.tail _ (.tail _ (.tail _ (.head _)))); exact .tail _ (.tail _ (.tail _ (.tail _ (.tail _ (.head _))))); exact .tail _ (.tail _ (.tail _ (.tail _ (.tail _ (.tail _ (.head _)))))); exact .tail _ (.tail _ (.tail _ (.tail _ (.tail _ (.tail _ (.tail _ (.head _))))))))) hT)) rfl (l' := [(232, _), (231, _), (100, _), (14, _), (15, _), (13, _), (11, _), (10, _), (9, _), (8, _), (7, _), (5, _), (0, _), (1, _)]) rfl ?_; rintro a w v L ⟨L1, ⟨rfl, rfl⟩, rfl⟩ hf hT
            refine rd hf rfl (yl_cmp rfl rfl rfl) rfl rfl ?_; intro a hf
            refine rd hf rfl (yl_move rfl) rfl rfl ?_; intro a hf
            refine rdT hf rfl rfl rfl rfl (by first | exact hsub | simp [hsub]) (yl_move rfl) rfl (l' := [(236, _), (235, _), (234, _), (233, _), (232, _), (231, _), (100, _), (14, _), (15, _), (13, _), (11, _), (10, _), (9, _), (8, _), (7, _), (5, _), (0, _), (1, _)]) rfl ?_; intro a hf
            refine rdT hf rfl rfl rfl rfl (by first | exact hsub | simp [hsub]) (yl_move rfl) rfl (l' := [(237, _), (236, _), (235, _), (234, _), (233, _), (232, _), (231, _), (100, _), (14, _), (15, _), (13, _), (11, _), (10, _), (9, _), (8, _), (7, _), (5, _), (0, _), (1, _)]) rfl ?_; intro a hf
            refine rdT hf rfl rfl rfl rfl (by first | exact hsub | simp [hsub]) (yl_conv64 rfl Try.underlying22 Try.underlying2 (by unfold inI64; omega)) rfl (l' := [(238, _), (237, _), (236, _), (235, _), (234, _), (233, _), (232, _), (231, _), (100, _), (14, _), (15, _), (13, _), (11, _), (10, _), (9, _), (8, _), (7, _), (5, _), (0, _), (1, _)]) rfl ?_; intro a hf
            refine rdT hf rfl rfl rfl rfl (by first | exact hsub | simp [hsub]) (yl_rem rfl rfl (by omega) (by omega)) rfl (l' := [(239, _), (238, _), (237, _), (236, _), (235, _), (234, _), (233, _), (232, _), (231, _), (100, _), (14, _), (15, _), (13, _), (11, _), (10, _), (9, _), (8, _), (7, _), (5, _), (0, _), (1, _)]) rfl ?_; intro a hf
            refine rdT hf rfl rfl rfl rfl (by first | exact hsub | simp [hsub]) (yl_add rfl rfl (by unfold inI64; omega)) rfl (l' := [(240, _), (239, _), (238, _), (237, _), (236, _), (235, _), (234, _), (233, _), (232, _), (231, _), (100, _), (14, _), (15, _), (13, _), (11, _), (10, _), (9, _), (8, _), (7, _), (5, _), (0, _), (1, _)]) rfl ?_; intro a hf
            refine rdT hf rfl rfl rfl rfl (by first | exact hsub | simp [hsub]) (yl_cmp rfl rfl rfl) rfl (l' := [(241, _), (240, _), (239, _), (238, _), (237, _), (236, _), (235, _), (234, _), (233, _), (232, _), (231, _), (100, _), (14, _), (15, _), (13, _), (11, _), (10, _), (9, _), (8, _), (7, _), (5, _), (0, _), (1, _)]) rfl ?_; intro a hf
            refine rd hf rfl (yl_pickFF rfl hsub rfl) rfl rfl ?_; intro a hf
            refine plan_nil ?_
            replace hf := hf.sel [242, 8, 7, 5, 0, 1] (l' := [(242, _), (8, _), (7, _), (5, _), (0, _), (1, _)]) rfl
            refine wp_ifd hf rfl (fun hov => ?_) (fun hov => ?_)
            · -- then
              exact absurd hov (by omega)
            · -- else
              refine wpIn_skip ?_
              -- region 9 (outright.go:59)
              refine wp_reg ([]) ([_, _, _, _, _, _, _, _, _, _] ++ rs) [(0, true), (1, true), (2, true)] mixed (by kernel_rfl) (hT) ?_; intro w hT
              refine rd hf rfl (yl_move rfl) rfl rfl ?_; intro a hf
              refine rd hf rfl (yl_add rfl rfl (by unfold inI64; omega)) rfl rfl ?_; intro a hf
              refine rw_ hf rfl (yl_assign rfl) rfl (l' := [(8, _), (44, _), (43, _), (242, _), (7, _), (5, _), (0, _), (1, _)]) rfl ?_; intro a hf
              refine plan_nil ?_
              replace hf := hf.sel [8, 7, 5, 0, 1] (l' := [(8, _), (7, _), (5, _), (0, _), (1, _)]) rfl
              exact ⟨(i + 1, s', _), _, hf.sel [8, 7, 5, 0, 1] rfl, ⟨hK2, by omega, _, _, _, _, _, _, hM1, hBp, rfl⟩, (hT.brings [9, 9, 4, 4]).tail.tail.tail.tail, by first | omega | (dsimp only; omega)⟩
    · -- else
      refine wpIn_exit ?_
      refine then_exit ?_
      refine then_exit ?_
      refine inBlock_hit ?_
      refine wpIn_seq ?_
      -- region 38 (outright.go:96)
      refine wp_reg ([]) ([_, _, _, _, _, _] ++ rs) [(0, false), (1, true)] mixed (by kernel_rfl) (hT) ?_; intro w hT
      refine ef_call hf rfl (wanted_none _ _ rfl) rfl rfl (by kernel_rfl) (Spec.frame (L2 := []) (fine_spec hT)) rfl (l' := [(42, _), (8, _), (7, _), (5, _), (0, _), (1, _)]) rfl ?_; rintro a w v L ⟨L1, ⟨rfl, rfl⟩, rfl⟩ hf hT
      refine rd hf rfl (yl_assign rfl) rfl rfl ?_; intro a hf
      refine plan_nil ?_
      replace hf := hf.sel [4] (l' := [(4, _)]) rfl
      refine wpIn_ret ?_
      exact body_ret hf (L := []) hT.tail.tail.tail.tail.tail.tail rfl rfl ⟨rfl, rfl⟩
end Go.Proofs.Ytjhbgciocffihaa
