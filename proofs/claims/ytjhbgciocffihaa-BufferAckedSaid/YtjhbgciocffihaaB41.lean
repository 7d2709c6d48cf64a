-- written by gen.py out of walks texts of my own
import Derived.Test.YtjhbgciocffihaaB40
set_option linter.unusedVariables false
set_option linter.unusedSimpArgs false
set_option maxHeartbeats 4000000
namespace Go.Proofs.Ytjhbgciocffihaa
theorem filter_nth {α : Type} (p : α → Bool) (l : List α) {k : Nat} (hk : k < l.length) (h : p l[k] = true) : (l.filter p)[((l.take k).filter p).length]? = some l[k] := by
  have e : l.filter p = (l.take k).filter p ++ (l[k] :: (l.drop (k + 1)).filter p) := by
    have h1 : l = l.take k ++ l[k] :: l.drop (k + 1) := by rw [← List.drop_eq_getElem_cons hk, List.take_append_drop]
    have h2 := congrArg (List.filter p) h1
    rw [List.filter_append, List.filter_cons_of_pos h] at h2
    exact h2
  rw [e, List.getElem?_append_right (Nat.le_refl _), Nat.sub_self]; rfl
theorem take_filter_succ {α : Type} (p : α → Bool) (l : List α) {k : Nat} (hk : k < l.length) : (l.take (k + 1)).filter p = (l.take k).filter p ++ (if p l[k] = true then [l[k]] else []) := by
  rw [List.take_succ_eq_append_getElem hk, List.filter_append]
  congr 1
  by_cases h : p l[k] = true
  · rw [if_pos h, List.filter_cons_of_pos h]; rfl
  · rw [if_neg h, List.filter_cons_of_neg h]; rfl
theorem TakeRes.len1 {xs : List Rec} {r : Rec} {a : List Rec} {o : Bool} {e : Int} (h : TakeRes xs r a o e) : a.length ≤ xs.length + 1 := by
  rcases h with ⟨a1, rfl, _⟩ | ⟨a1, a2, rfl, _⟩ | ⟨a1, a2, a3, rfl, _⟩ | ⟨a1, a2, a3, rfl, _⟩
  · omega
  · omega
  · omega
  · rw [(insI_perm xs r).length_eq]; simp
theorem BufferAcked_spec {e : Env} {w : World} {rs : List Part} (l m : List Pc) (hPl : ∀ p ∈ l, p.Ok) (hPm : ∀ p ∈ m, p.Ok) (v0 v1 : Value) (hE : Els encPc rs v0 l) (hE1 : Els encPc rs v1 m) (hT : Tot e w rs) : Spec Try.prog 9 #[v0, v1] e w rs (fun v L => v = .bool true ∧ L = []) := by
  refine spec_body Try.func9 rfl Try.ntmps9 rfl rfl ?_
  intro a hf
  refine wpIn_seq ?_
  -- region 0 (outright.go:255)
  refine wp_reg ([]) ([] ++ rs) [(0, true)] mixed (by kernel_rfl) (hT) ?_; intro w hT
  refine rd hf rfl (yl_assign rfl) rfl rfl ?_; intro a hf
  refine plan_nil ?_
  refine wpIn_seq ?_
  refine wpIn_seq ?_
  -- region 1 (outright.go:256)
  refine wp_reg ([]) ([] ++ rs) [(0, true), (1, true), (2, true), (3, true), (4, true), (5, true), (6, true), (7, true)] mixed (by kernel_rfl) (hT) ?_; intro w hT
  refine rd hf rfl (yl_move rfl) rfl rfl ?_; intro a hf
  refine rd hf rfl (yl_lenE rfl Try.underlying23 hE.app) rfl rfl ?_; intro a hf
  refine rd hf rfl (yl_cmp rfl rfl rfl) rfl rfl ?_; intro a hf
  refine rd hf rfl (yl_move rfl) rfl rfl ?_; intro a hf
  by_cases hg3 : (40 : Int) < (l.length : Nat)
  · have hgT1 : decide ((40 : Int) < (l.length : Nat)) = true := by simpa using hg3
    refine rdF hf rfl rfl rfl rfl (by first | exact hgT1 | simp [hgT1]) rfl (l' := [(27, _), (26, _), (25, _), (24, _), (23, _), (4, _), (0, _), (1, _)]) rfl ?_; intro a hf
    refine rdF hf rfl rfl rfl rfl (by first | exact hgT1 | simp [hgT1]) rfl (l' := [(28, _), (27, _), (26, _), (25, _), (24, _), (23, _), (4, _), (0, _), (1, _)]) rfl ?_; intro a hf
    refine rdF hf rfl rfl rfl rfl (by first | exact hgT1 | simp [hgT1]) rfl (l' := [(29, _), (28, _), (27, _), (26, _), (25, _), (24, _), (23, _), (4, _), (0, _), (1, _)]) rfl ?_; intro a hf
    refine rd hf rfl (yl_pickTT rfl hgT1 rfl) rfl rfl ?_; intro a hf
    refine plan_nil ?_
    replace hf := hf.sel [30, 0, 1] (l' := [(30, _), (0, _), (1, _)]) rfl
    refine wp_ifTT hf rfl (rfl) ?_
    refine wpIn_seq ?_
    -- region 2 (outright.go:257)
    refine wp_reg ([]) ([] ++ rs) [(0, false), (1, true)] mixed (by kernel_rfl) (hT) ?_; intro w hT
    refine ef_call hf rfl (wanted_none _ _ rfl) rfl rfl (by kernel_rfl) (Spec.frame (L2 := []) (fine_spec hT)) rfl (l' := [(30, _), (0, _), (1, _)]) rfl ?_; rintro a w v L ⟨L1, ⟨rfl, rfl⟩, rfl⟩ hf hT
    refine rd hf rfl (yl_assign rfl) rfl rfl ?_; intro a hf
    refine plan_nil ?_
    replace hf := hf.sel [4] (l' := [(4, _)]) rfl
    refine wpIn_ret ?_
    exact body_ret hf (L := []) hT rfl rfl ⟨rfl, rfl⟩
  · have hgT1 : decide ((40 : Int) < (l.length : Nat)) = false := by simpa using hg3
    refine rdT hf rfl rfl rfl rfl (by first | exact hgT1 | simp [hgT1]) (yl_move rfl) rfl (l' := [(27, _), (26, _), (25, _), (24, _), (23, _), (4, _), (0, _), (1, _)]) rfl ?_; intro a hf
    refine rdT hf rfl rfl rfl rfl (by first | exact hgT1 | simp [hgT1]) (yl_lenE rfl Try.underlying23 hE1.app) rfl (l' := [(28, _), (27, _), (26, _), (25, _), (24, _), (23, _), (4, _), (0, _), (1, _)]) rfl ?_; intro a hf
    refine rdT hf rfl rfl rfl rfl (by first | exact hgT1 | simp [hgT1]) (yl_cmp rfl rfl rfl) rfl (l' := [(29, _), (28, _), (27, _), (26, _), (25, _), (24, _), (23, _), (4, _), (0, _), (1, _)]) rfl ?_; intro a hf
    refine rd hf rfl (yl_pickFF rfl hgT1 rfl) rfl rfl ?_; intro a hf
    refine plan_nil ?_
    replace hf := hf.sel [30, 0, 1] (l' := [(30, _), (0, _), (1, _)]) rfl
    refine wp_ifd hf rfl (fun h40 => ?_) (fun h40 => ?_)
    · -- then
      refine wpIn_seq ?_
      -- region 2 (outright.go:257)
      refine wp_reg ([]) ([] ++ rs) [(0, false), (1, true)] mixed (by kernel_rfl) (hT) ?_; intro w hT
      refine ef_call hf rfl (wanted_none _ _ rfl) rfl rfl (by kernel_rfl) (Spec.frame (L2 := []) (fine_spec hT)) rfl (l' := [(30, _), (0, _), (1, _)]) rfl ?_; rintro a w v L ⟨L1, ⟨rfl, rfl⟩, rfl⟩ hf hT
      refine rd hf rfl (yl_assign rfl) rfl rfl ?_; intro a hf
      refine plan_nil ?_
      replace hf := hf.sel [4] (l' := [(4, _)]) rfl
      refine wpIn_ret ?_
      exact body_ret hf (L := []) hT rfl rfl ⟨rfl, rfl⟩
    · -- else
      refine wpIn_skip ?_
      refine wpIn_seq ?_
      -- region 3 (outright.go:259)
      refine wp_reg ([]) ([] ++ rs) [(0, false), (1, true)] mixed (by kernel_rfl) (hT) ?_; intro w hT
      refine ef_call hf rfl (wanted_none _ _ rfl) rfl rfl (by kernel_rfl) (Spec.frame (L2 := []) (NewInbox_spec hT)) rfl (l' := [(30, _), (0, _), (1, _)]) rfl ?_; rintro a w v L ⟨L1, ⟨bi, rfl, hI0⟩, rfl⟩ hf hT
      obtain ⟨i0, i1, rfl⟩ := hI0.two
      refine rd hf rfl (yl_assign rfl) rfl rfl ?_; intro a hf
      refine plan_nil ?_
      refine wpIn_seq ?_
      -- region 4 (outright.go:260)
      refine wp_reg ([]) ([_, _] ++ rs) [(0, false), (1, true), (2, true), (3, true), (4, true), (5, true)] mixed (by kernel_rfl) (hT) ?_; intro w hT
      refine ef_call hf rfl (wanted_none _ _ rfl) rfl rfl (by kernel_rfl) (Spec.frame (L2 := []) ((New_spec (16777216) hT).mono (fun v L h => by rw [if_pos (by decide)] at h; exact h))) rfl (l' := [(5, _), (32, _), (30, _), (0, _), (1, _)]) rfl ?_; rintro a w v L ⟨L1, ⟨b, rfl, hB0⟩, rfl⟩ hf hT
      obtain ⟨y0, y1, y2, y3, y4, rfl⟩ := hB0.five
      refine rd hf rfl (yl_move rfl) rfl rfl ?_; intro a hf
      refine rd hf rfl (yl_extract rfl rfl) rfl rfl ?_; intro a hf
      refine rd hf rfl (yl_extract rfl rfl) rfl rfl ?_; intro a hf
      refine rd hf rfl (yl_assign rfl) rfl rfl ?_; intro a hf
      refine rd hf rfl (yl_assign rfl) rfl rfl ?_; intro a hf
      refine plan_nil ?_
      replace hf := hf.sel [7, 6, 5, 0, 1] (l' := [(7, _), (6, _), (5, _), (0, _), (1, _)]) rfl
      refine wpIn_seq ?_
      refine wpIn_seq ?_
      -- region 5 (outright.go:261)
      refine wp_reg ([]) ([_, _, _, _, _, _, _] ++ rs) [(0, true), (1, true), (2, true), (3, true), (4, true), (5, true), (6, true), (7, true), (8, true), (9, true)] mixed (by kernel_rfl) (hT) ?_; intro w hT
      refine rd hf rfl (yl_move rfl) rfl rfl ?_; intro a hf
      refine rd hf rfl (yl_cmp rfl rfl rfl) rfl rfl ?_; intro a hf
      refine rd hf rfl (yl_move rfl) rfl rfl ?_; intro a hf
      refine rdT hf rfl rfl rfl rfl (rfl) (yl_move rfl) rfl (l' := [(40, _), (39, _), (38, _), (37, _), (7, _), (6, _), (5, _), (0, _), (1, _)]) rfl ?_; intro a hf
      refine rdT hf rfl rfl rfl rfl (rfl) (yl_ptrNil rfl rfl Try.underlying71 rfl) rfl (l' := [(41, _), (40, _), (39, _), (38, _), (37, _), (7, _), (6, _), (5, _), (0, _), (1, _)]) rfl ?_; intro a hf
      refine rd hf rfl (yl_pickFF rfl rfl rfl) rfl rfl ?_; intro a hf
      refine rd hf rfl (yl_move rfl) rfl rfl ?_; intro a hf
      refine rdT hf rfl rfl rfl rfl (rfl) (yl_move rfl) rfl (l' := [(44, _), (43, _), (42, _), (41, _), (40, _), (39, _), (38, _), (37, _), (7, _), (6, _), (5, _), (0, _), (1, _)]) rfl ?_; intro a hf
      refine rdT hf rfl rfl rfl rfl (rfl) (yl_ptrNil rfl rfl Try.underlying25 rfl) rfl (l' := [(45, _), (44, _), (43, _), (42, _), (41, _), (40, _), (39, _), (38, _), (37, _), (7, _), (6, _), (5, _), (0, _), (1, _)]) rfl ?_; intro a hf
      refine rd hf rfl (yl_pickFF rfl rfl rfl) rfl rfl ?_; intro a hf
      refine plan_nil ?_
      replace hf := hf.sel [46, 6, 5, 0, 1] (l' := [(46, _), (6, _), (5, _), (0, _), (1, _)]) rfl
      refine wp_ifFF hf rfl (rfl) ?_
      refine wpIn_skip ?_
      refine wpIn_seq ?_
      refine wpIn_seq ?_
      -- region 7 (outright.go:264)
      refine wp_reg ([]) ([_, _, _, _, _, _, _] ++ rs) [(0, true)] mixed (by kernel_rfl) (hT) ?_; intro w hT
      refine rd hf rfl (yl_assign rfl) rfl rfl ?_; intro a hf
      refine plan_nil ?_
      refine wpIn_block ?_
      have hlen := hE.len_le
      have hlen1 := hE1.len_le
      replace hT := hT.bring 6
      replace hT := hT.bring 6
      refine wp_loopS (σ := Nat × List Rec) (fun (i, xs) => [(8, .int .i64 (i : Nat))]) [(6, _), (5, _), (0, _), (1, _)] (fun (i, xs) L => Inb xs ∧ xs.length ≤ i ∧ i ≤ l.length ∧ ∃ y0 y1, InR bi xs [y0, y1] ∧ L = [y0, y1]) (fun (i, xs) => l.length - i) (0, []) (L := [_, _]) (R := [_, _, _, _, _] ++ rs) (hf.sel [8, 6, 5, 0, 1] rfl) (⟨inb_nil, Nat.le_refl _, Nat.zero_le _, _, _, hI0, rfl⟩) hT ?_
      clear hf hT; rintro ⟨i, xs⟩ a w L hf ⟨hIb, hxl, hi, y0, y1, hIx, rfl⟩ hT
      replace hf : Fr _ [(8, .int .i64 (i : Nat)), (6, _), (5, _), (0, _), (1, _)] _ _ := hf
      refine wpIn_seq ?_
      refine wpIn_seq ?_
      -- region 8 (outright.go:264)
      refine wp_reg ([]) ([_, _, _, _, _, _, _] ++ rs) [(0, true), (1, true), (2, true), (3, true)] mixed (by kernel_rfl) (hT) ?_; intro w hT
      refine rd hf rfl (yl_move rfl) rfl rfl ?_; intro a hf
      refine rd hf rfl (yl_move rfl) rfl rfl ?_; intro a hf
      refine rd hf rfl (yl_lenE rfl Try.underlying23 hE.app) rfl rfl ?_; intro a hf
      refine rd hf rfl (yl_cmp rfl rfl rfl) rfl rfl ?_; intro a hf
      refine plan_nil ?_
      replace hf := hf.sel [50, 8, 6, 5, 0, 1] (l' := [(50, _), (8, _), (6, _), (5, _), (0, _), (1, _)]) rfl
      refine wp_ifd hf rfl (fun hlt => ?_) (fun hlt => ?_)
      · -- then
        have hlt' : i < l.length := by omega
        have hj : l[i]? = some l[i] := List.getElem?_eq_getElem hlt'
        have hpo := hPl l[i] (List.getElem_mem hlt')
        generalize l[i] = p at hj hpo
        have hpr := Pc.toR_ok hpo
        refine wpIn_skip ?_
        refine wpIn_seq ?_
        refine wpIn_block ?_
        -- region 10 (outright.go:265)
        refine wp_reg ([_, _]) ([_, _, _, _, _] ++ rs) [(0, true), (1, true), (2, true), (3, true), (4, true), (5, false), (6, false)] mixed (by kernel_rfl) (hT.brings [1, 1]) ?_; intro w hT
        refine rd hf rfl (yl_move rfl) rfl rfl ?_; intro a hf
        refine rd hf rfl (yl_move rfl) rfl rfl ?_; intro a hf
        refine rd hf rfl (yl_move rfl) rfl rfl ?_; intro a hf
        refine rd hf rfl (yl_indexE rfl rfl Try.underlying23 sz_33 hE.app (by omega) (by omega)) rfl rfl ?_; intro a hf
        refine rd hf rfl (yl_loadA Try.underlying33 rfl sz_33 rfl (hE.app.row hj) rfl) rfl rfl ?_; intro a hf
        refine ef_call hf rfl (wanted_none _ _ rfl) rfl rfl (by kernel_rfl) (Spec.frame (L2 := [_, _]) (record_spec p hpo hT)) rfl (l' := [(57, _), (56, _), (55, _), (54, _), (53, _), (50, _), (8, _), (6, _), (5, _), (0, _), (1, _)]) rfl ?_; rintro a w v L ⟨L1, ⟨rfl, rfl⟩, rfl⟩ hf hT
        replace hT : Tot _ _ ([_, _] ++ ([_, _, _, _, _] ++ rs)) := hT.bring 1
        replace hT : Tot _ _ ([_, _] ++ ([_, _, _, _, _] ++ rs)) := hT.bring 1
        refine ef_call hf rfl (wanted_none _ _ rfl) rfl rfl (by kernel_rfl) (Spec.frame (L2 := []) (Take_spec bi xs _ hIx hIb p.toR hT)) rfl (l' := [(58, _), (57, _), (56, _), (55, _), (54, _), (53, _), (50, _), (8, _), (6, _), (5, _), (0, _), (1, _)]) rfl ?_; rintro a w v L ⟨L1, ⟨xs', ok1, er1, Lp, rfl, hIx2, rfl, hR⟩, rfl⟩ hf hT
        obtain ⟨j0, j1, rfl⟩ := hIx2.two
        refine plan_nil ?_
        replace hf := hf.sel [8, 6, 5, 0, 1] (l' := [(8, _), (6, _), (5, _), (0, _), (1, _)]) rfl
        -- region 9 (outright.go:264)
        refine wp_reg ([]) ([_, _, _, _, _, _, _] ++ rs) [(0, true), (1, true), (2, true)] mixed (by kernel_rfl) (hT) ?_; intro w hT
        refine rd hf rfl (yl_move rfl) rfl rfl ?_; intro a hf
        refine rd hf rfl (yl_add rfl rfl (by unfold inI64; omega)) rfl rfl ?_; intro a hf
        refine rw_ hf rfl (yl_assign rfl) rfl (l' := [(8, _), (52, _), (51, _), (6, _), (5, _), (0, _), (1, _)]) rfl ?_; intro a hf
        refine plan_nil ?_
        exact ⟨(i + 1, xs'), _, hf.sel [8, 6, 5, 0, 1] rfl, ⟨hR.inb hIb, by have := hR.len1; omega, by omega, _, _, hIx2, rfl⟩, hT, by first | omega | (dsimp only; omega)⟩
      · -- else
        have hx40 : xs.length ≤ 40 := by omega
        clear hxl hi
        refine wpIn_exit ?_
        refine then_exit ?_
        refine then_exit ?_
        refine inBlock_hit ?_
        refine wpIn_seq ?_
        refine wpIn_seq ?_
        -- region 11 (outright.go:267)
        refine wp_reg ([]) ([_, _, _, _, _, _, _] ++ rs) [(0, true)] mixed (by kernel_rfl) (hT) ?_; intro w hT
        refine rd hf rfl (yl_assign rfl) rfl rfl ?_; intro a hf
        refine plan_nil ?_
        replace hf := hf.sel [9, 6, 5, 1] (l' := [(9, _), (6, _), (5, _), (1, _)]) rfl
        refine wpIn_block ?_
        replace hT := hT.bring 6
        replace hT := hT.bring 6
        replace hT := hT.bring 6
        replace hT := hT.bring 6
        replace hT := hT.bring 6
        refine wp_loopS (σ := Nat × BS) (fun (i, s) => [(9, .int .i64 (i : Nat))]) [(6, _), (5, _), (1, _)] (fun (i, s) L => (Inv s ∧ s.L.length ≤ i ∧ s.time = 0) ∧ i ≤ m.length ∧ ∃ y0 y1 y2 y3 y4, BufR b s [y0, y1, y2, y3, y4] ∧ L = [y0, y1, y2, y3, y4]) (fun (i, s) => m.length - i) (0, ⟨16777216, 0, 0, []⟩) (L := [_, _, _, _, _]) (R := [_, _] ++ rs) (hf.sel [9, 6, 5, 1] rfl) (⟨⟨inv0 _ (by decide), Nat.le_refl _, rfl⟩, Nat.zero_le _, _, _, _, _, _, hB0, rfl⟩) hT ?_
        clear hf hT; rintro ⟨i, s⟩ a w L hf ⟨⟨hI, hli, hti⟩, hi, y0, y1, y2, y3, y4, hB, rfl⟩ hT
        replace hf : Fr _ [(9, .int .i64 (i : Nat)), (6, _), (5, _), (1, _)] _ _ := hf
        refine wpIn_seq ?_
        refine wpIn_seq ?_
        -- region 12 (outright.go:267)
        refine wp_reg ([]) ([_, _, _, _, _, _, _] ++ rs) [(0, true), (1, true), (2, true), (3, true)] mixed (by kernel_rfl) (hT) ?_; intro w hT
        refine rd hf rfl (yl_move rfl) rfl rfl ?_; intro a hf
        refine rd hf rfl (yl_move rfl) rfl rfl ?_; intro a hf
        refine rd hf rfl (yl_lenE rfl Try.underlying23 hE1.app) rfl rfl ?_; intro a hf
        refine rd hf rfl (yl_cmp rfl rfl rfl) rfl rfl ?_; intro a hf
        refine plan_nil ?_
        replace hf := hf.sel [63, 9, 6, 5, 1] (l' := [(63, _), (9, _), (6, _), (5, _), (1, _)]) rfl
        refine wp_ifd hf rfl (fun hlt => ?_) (fun hlt => ?_)
        · -- then
          have hlt' : i < m.length := by omega
          have hj : m[i]? = some m[i] := List.getElem?_eq_getElem hlt'
          have hpo := hPm m[i] (List.getElem_mem hlt')
          generalize m[i] = p at hj hpo
          have hpr := Pc.toR_ok hpo
          refine wpIn_skip ?_
          refine wpIn_seq ?_
          refine wpIn_block ?_
          -- region 14 (outright.go:268)
          refine wp_reg ([_, _, _, _, _]) ([_, _] ++ rs) [(0, true), (1, true), (2, true), (3, true), (4, true), (5, false), (6, false)] mixed (by kernel_rfl) (hT.brings [4, 4, 4, 4, 4]) ?_; intro w hT
          refine rd hf rfl (yl_move rfl) rfl rfl ?_; intro a hf
          refine rd hf rfl (yl_move rfl) rfl rfl ?_; intro a hf
          refine rd hf rfl (yl_move rfl) rfl rfl ?_; intro a hf
          refine rd hf rfl (yl_indexE rfl rfl Try.underlying23 sz_33 hE1.app (by omega) (by omega)) rfl rfl ?_; intro a hf
          refine rd hf rfl (yl_loadA Try.underlying33 rfl sz_33 rfl (hE1.app.row hj) rfl) rfl rfl ?_; intro a hf
          refine ef_call hf rfl (wanted_none _ _ rfl) rfl rfl (by kernel_rfl) (Spec.frame (L2 := [_, _, _, _, _]) (record_spec p hpo hT)) rfl (l' := [(70, _), (69, _), (68, _), (67, _), (66, _), (63, _), (9, _), (6, _), (5, _), (1, _)]) rfl ?_; rintro a w v L ⟨L1, ⟨rfl, rfl⟩, rfl⟩ hf hT
          replace hT : Tot _ _ ([_, _, _, _, _] ++ ([_, _] ++ rs)) := hT.bring 4
          replace hT : Tot _ _ ([_, _, _, _, _] ++ ([_, _] ++ rs)) := hT.bring 4
          replace hT : Tot _ _ ([_, _, _, _, _] ++ ([_, _] ++ rs)) := hT.bring 4
          replace hT : Tot _ _ ([_, _, _, _, _] ++ ([_, _] ++ rs)) := hT.bring 4
          replace hT : Tot _ _ ([_, _, _, _, _] ++ ([_, _] ++ rs)) := hT.bring 4
          refine ef_call hf rfl (wanted_none _ _ rfl) rfl rfl (by kernel_rfl) (Spec.frame (L2 := []) (Put5_spec b s _ hB hI (by omega) p.toR hT)) rfl (l' := [(71, _), (70, _), (69, _), (68, _), (67, _), (66, _), (63, _), (9, _), (6, _), (5, _), (1, _)]) rfl ?_; rintro a w v L ⟨L1, ⟨s', d, er, q, XQ, Lp, rfl, hD, hBp, rfl, hR⟩, rfl⟩ hf hT
          obtain ⟨z0, z1, z2, z3, z4, rfl⟩ := hBp.five
          refine plan_nil ?_
          replace hf := hf.sel [9, 6, 5, 1] (l' := [(9, _), (6, _), (5, _), (1, _)]) rfl
          -- region 13 (outright.go:267)
          refine wp_reg ([]) ([_, _, _, _, _, _, _, _] ++ rs) [(0, true), (1, true), (2, true)] mixed (by kernel_rfl) (hT) ?_; intro w hT
          refine rd hf rfl (yl_move rfl) rfl rfl ?_; intro a hf
          refine rd hf rfl (yl_add rfl rfl (by unfold inI64; omega)) rfl rfl ?_; intro a hf
          refine rw_ hf rfl (yl_assign rfl) rfl (l' := [(9, _), (65, _), (64, _), (6, _), (5, _), (1, _)]) rfl ?_; intro a hf
          refine plan_nil ?_
          exact ⟨(i + 1, s'), _, hf.sel [9, 6, 5, 1] rfl, ⟨⟨hR.inv hI, by have := hR.len1 hI; omega, by rw [hR.time]; exact hti⟩, by omega, _, _, _, _, _, hBp, rfl⟩, (hT.brings [0]).tail, by first | omega | (dsimp only; omega)⟩
        · -- else
          have hl40 : s.L.length ≤ 40 := by omega
          clear hli hi
          have hids : (rids xs).Pairwise (· < ·) := List.pairwise_map.2 hIb.srt
          have hidr : ∀ x ∈ rids xs, 0 ≤ x ∧ x ≤ 1073741824 := fun x hx => by obtain ⟨r, hr, rfl⟩ := List.mem_map.1 hx; have := hIb.ok r hr; unfold Rec.Ok at this; omega
          have hrl : (rids xs).length = xs.length := by simp [rids]
          have h0 := runs_setE hids hidr (by omega)
          have hcnt := runs_cnt (rids xs)
          rw [hrl] at hcnt
          obtain ⟨S, hS⟩ : ∃ S, S = runs (rids xs) := ⟨_, rfl⟩
          have hin : ∀ y, inS S y = decide (y ∈ rids xs) := fun y => by rw [hS]; exact runs_in _ y
          rw [← hS] at h0 hcnt
          refine wpIn_exit ?_
          refine then_exit ?_
          refine then_exit ?_
          refine inBlock_hit ?_
          refine wpIn_seq ?_
          -- region 15 (outright.go:270)
          refine wp_reg ([]) ([_, _, _, _, _, _, _] ++ rs) [(0, true), (1, false), (2, true), (3, false), (4, true), (5, false), (6, true), (7, true), (8, true)] mixed (by kernel_rfl) (hT) ?_; intro w hT
          refine rd hf rfl (yl_move rfl) rfl rfl ?_; intro a hf
          refine ef_call hf rfl (wanted_none _ _ rfl) rfl rfl (by kernel_rfl) (Spec.frame (L2 := []) (Acks_spec bi xs (hIx.inn (fun x hx => by rcases mem2 hx with rfl | rfl; exact .tail _ (.tail _ (.tail _ (.tail _ (.tail _ (.head _))))); exact .tail _ (.tail _ (.tail _ (.tail _ (.tail _ (.tail _ (.head _)))))))) hIb hT)) rfl (l' := [(73, _), (63, _), (9, _), (6, _), (5, _), (1, _)]) rfl ?_; rintro a w sv L ⟨L1, ⟨XA, hA, rfl⟩, rfl⟩ hf hT
          rw [← hS] at hA
          refine rd hf rfl (yl_move rfl) rfl rfl ?_; intro a hf
          refine ef_call hf rfl (wanted_none _ _ rfl) rfl rfl (by kernel_rfl) (Spec.frame (L2 := [_]) (Records_spec bi xs (hIx.inn (fun x hx => by rcases mem2 hx with rfl | rfl; exact .tail _ (.tail _ (.tail _ (.tail _ (.tail _ (.tail _ (.head _)))))); exact .tail _ (.tail _ (.tail _ (.tail _ (.tail _ (.tail _ (.tail _ (.head _))))))))) hIb.srt hIb.len hT)) rfl (l' := [(75, _), (74, _), (73, _), (63, _), (9, _), (6, _), (5, _), (1, _)]) rfl ?_; rintro a w rv L ⟨L1, ⟨XR, hRc, rfl⟩, rfl⟩ hf hT
          refine rd hf rfl (yl_move rfl) rfl rfl ?_; intro a hf
          refine ef_call hf rfl (wanted_none _ _ rfl) rfl rfl (by kernel_rfl) (Spec.frame (L2 := [_, _]) (Held_spec b s (hB.inn (fun x hx => by rcases mem5 hx with rfl | rfl | rfl | rfl | rfl; exact .tail _ (.tail _ (.head _)); exact .tail _ (.tail _ (.tail _ (.head _))); exact .tail _ (.tail _ (.tail _ (.tail _ (.head _)))); exact .tail _ (.tail _ (.tail _ (.tail _ (.tail _ (.head _))))); exact .tail _ (.tail _ (.tail _ (.tail _ (.tail _ (.tail _ (.head _)))))))) hI.nd (by omega) hT)) rfl (l' := [(77, _), (76, _), (75, _), (74, _), (73, _), (63, _), (9, _), (6, _), (5, _), (1, _)]) rfl ?_; rintro a w bef L ⟨L1, ⟨XH1, hH1, rfl⟩, rfl⟩ hf hT
          refine rd hf rfl (yl_assign rfl) rfl rfl ?_; intro a hf
          refine rd hf rfl (yl_assign rfl) rfl rfl ?_; intro a hf
          refine rd hf rfl (yl_assign rfl) rfl rfl ?_; intro a hf
          refine plan_nil ?_
          replace hf := hf.sel [12, 11, 10, 6] (l' := [(12, _), (11, _), (10, _), (6, _)]) rfl
          refine wpIn_seq ?_
          -- region 16 (outright.go:271)
          refine wp_reg ([]) ([_, _, _, _, _, _, _, _, _, _] ++ rs) [(0, true), (1, false), (2, true), (3, true), (4, true), (5, true), (6, true)] mixed (by kernel_rfl) (hT) ?_; intro w hT
          refine rd hf rfl (yl_move rfl) rfl rfl ?_; intro a hf
          refine ef_call hf rfl (wanted_none _ _ rfl) rfl rfl (by kernel_rfl) (Spec.frame (L2 := []) (Count_spec0 S sv (hA.els (.tail _ (.tail _ (.head _)))) h0 hT)) rfl (l' := [(80, _), (12, _), (11, _), (10, _), (6, _)]) rfl ?_; rintro a w v L ⟨L1, ⟨rfl, rfl⟩, rfl⟩ hf hT
          rw [hcnt] at hf
          refine rd hf rfl (yl_move rfl) rfl rfl ?_; intro a hf
          refine rd hf rfl (yl_extract rfl rfl) rfl rfl ?_; intro a hf
          refine rd hf rfl (yl_extract rfl rfl) rfl rfl ?_; intro a hf
          refine rd hf rfl (yl_assign rfl) rfl rfl ?_; intro a hf
          refine rd hf rfl (yl_assign rfl) rfl rfl ?_; intro a hf
          refine plan_nil ?_
          replace hf := hf.sel [7, 13, 12, 11, 10, 6] (l' := [(7, _), (13, _), (12, _), (11, _), (10, _), (6, _)]) rfl
          refine wpIn_seq ?_
          refine wpIn_seq ?_
          -- region 17 (outright.go:272)
          refine wp_reg ([]) ([_, _, _, _, _, _, _, _, _, _] ++ rs) [(0, true), (1, false), (2, true), (3, true), (4, true), (5, true), (6, true), (7, true), (8, true), (9, true), (10, true), (11, true), (12, true)] mixed (by kernel_rfl) (hT) ?_; intro w hT
          refine rd hf rfl (yl_move rfl) rfl rfl ?_; intro a hf
          refine ef_call hf rfl (wanted_none _ _ rfl) rfl rfl (by kernel_rfl) (Spec.frame (L2 := []) (CheckSet_spec0 S sv (hA.els (.tail _ (.tail _ (.head _)))) h0 hT)) rfl (l' := [(84, _), (7, _), (13, _), (12, _), (11, _), (10, _), (6, _)]) rfl ?_; rintro a w v L ⟨L1, ⟨rfl, rfl⟩, rfl⟩ hf hT
          refine rd hf rfl (yl_cmp rfl rfl rfl) rfl rfl ?_; intro a hf
          refine rd hf rfl (yl_move rfl) rfl rfl ?_; intro a hf
          refine rdT hf rfl rfl rfl rfl (rfl) (yl_move rfl) rfl (l' := [(88, _), (87, _), (86, _), (85, _), (84, _), (7, _), (13, _), (12, _), (11, _), (10, _), (6, _)]) rfl ?_; intro a hf
          refine rdT hf rfl rfl rfl rfl (rfl) (yl_cmp rfl rfl rfl) rfl (l' := [(89, _), (88, _), (87, _), (86, _), (85, _), (84, _), (7, _), (13, _), (12, _), (11, _), (10, _), (6, _)]) rfl ?_; intro a hf
          refine rd hf rfl (yl_pickFF rfl rfl rfl) rfl rfl ?_; intro a hf
          refine rd hf rfl (yl_move rfl) rfl rfl ?_; intro a hf
          refine rdT hf rfl rfl rfl rfl (rfl) (yl_move rfl) rfl (l' := [(92, _), (91, _), (90, _), (89, _), (88, _), (87, _), (86, _), (85, _), (84, _), (7, _), (13, _), (12, _), (11, _), (10, _), (6, _)]) rfl ?_; intro a hf
          refine rdT hf rfl rfl rfl rfl (rfl) (yl_move rfl) rfl (l' := [(93, _), (92, _), (91, _), (90, _), (89, _), (88, _), (87, _), (86, _), (85, _), (84, _), (7, _), (13, _), (12, _), (11, _), (10, _), (6, _)]) rfl ?_; intro a hf
          refine rdT hf rfl rfl rfl rfl (rfl) (yl_lenE rfl Try.underlying70 (hRc.els (.tail _ (.head _)))) rfl (l' := [(94, _), (93, _), (92, _), (91, _), (90, _), (89, _), (88, _), (87, _), (86, _), (85, _), (84, _), (7, _), (13, _), (12, _), (11, _), (10, _), (6, _)]) rfl ?_; intro a hf
          refine rdT hf rfl rfl rfl rfl (rfl) (yl_cmp rfl rfl rfl) rfl (l' := [(95, _), (94, _), (93, _), (92, _), (91, _), (90, _), (89, _), (88, _), (87, _), (86, _), (85, _), (84, _), (7, _), (13, _), (12, _), (11, _), (10, _), (6, _)]) rfl ?_; intro a hf
          refine rd hf rfl (yl_pickFF rfl rfl rfl) rfl rfl ?_; intro a hf
          refine plan_nil ?_
          replace hf := hf.sel [96, 12, 11, 10, 6] (l' := [(96, _), (12, _), (11, _), (10, _), (6, _)]) rfl
          refine wp_ifd hf rfl (fun hbad => ?_) (fun hbad => ?_)
          · -- then
            exact absurd rfl hbad
          · -- else
            refine wpIn_skip ?_
            refine wpIn_seq ?_
            refine wpIn_seq ?_
            -- region 19 (outright.go:275)
            refine wp_reg ([]) ([_, _, _, _, _, _, _, _, _, _] ++ rs) [(0, true)] mixed (by kernel_rfl) (hT) ?_; intro w hT
            refine rd hf rfl (yl_assign rfl) rfl rfl ?_; intro a hf
            refine plan_nil ?_
            refine wpIn_block ?_
            refine wp_loopS (σ := Nat) (fun k => [(14, .int .i64 (k : Nat))]) [(12, _), (11, _), (10, _), (6, _)] (fun k L => L = [] ∧ k ≤ xs.length) (fun k => xs.length - k) 0 (L := []) (R := [_, _, _, _, _, _, _, _, _, _] ++ rs) (hf.sel [14, 12, 11, 10, 6] rfl) (⟨rfl, Nat.zero_le _⟩) hT ?_
            clear hf hT; rintro k a w L hf ⟨rfl, hk⟩ hT
            replace hf : Fr _ [(14, .int .i64 (k : Nat)), (12, _), (11, _), (10, _), (6, _)] _ _ := hf
            refine wpIn_seq ?_
            refine wpIn_seq ?_
            -- region 20 (outright.go:275)
            refine wp_reg ([]) ([_, _, _, _, _, _, _, _, _, _] ++ rs) [(0, true), (1, true), (2, true), (3, true)] mixed (by kernel_rfl) (hT) ?_; intro w hT
            refine rd hf rfl (yl_move rfl) rfl rfl ?_; intro a hf
            refine rd hf rfl (yl_move rfl) rfl rfl ?_; intro a hf
            refine rd hf rfl (yl_lenE rfl Try.underlying70 (hRc.els (.tail _ (.head _)))) rfl rfl ?_; intro a hf
            refine rd hf rfl (yl_cmp rfl rfl rfl) rfl rfl ?_; intro a hf
            refine plan_nil ?_
            replace hf := hf.sel [100, 14, 12, 11, 10, 6] (l' := [(100, _), (14, _), (12, _), (11, _), (10, _), (6, _)]) rfl
            refine wp_ifd hf rfl (fun hlk => ?_) (fun hlk => ?_)
            · -- then
              have hltr : k < xs.length := by omega
              obtain ⟨r, hrk⟩ : ∃ r, xs[k] = r := ⟨_, rfl⟩
              have hj : xs[k]? = some r := hrk ▸ List.getElem?_eq_getElem hltr
              have hrin : inS S r.id = true := by rw [hin]; exact decide_eq_true (List.mem_map.2 ⟨r, List.mem_of_getElem? hj, rfl⟩)
              refine wpIn_skip ?_
              refine wpIn_seq ?_
              refine wpIn_block ?_
              refine wpIn_seq ?_
              -- region 22 (outright.go:276)
              refine wp_reg ([]) ([_, _, _, _, _, _, _, _, _, _] ++ rs) [(0, true), (1, true), (2, true), (3, true), (4, true), (5, true), (6, false), (7, true), (8, true), (9, true), (10, true), (11, true)] mixed (by kernel_rfl) (hT) ?_; intro w hT
              refine rd hf rfl (yl_move rfl) rfl rfl ?_; intro a hf
              refine rd hf rfl (yl_move rfl) rfl rfl ?_; intro a hf
              refine rd hf rfl (yl_move rfl) rfl rfl ?_; intro a hf
              refine rd hf rfl (yl_indexE rfl rfl Try.underlying70 sz_31 (hRc.els (.tail _ (.head _))) (by omega) (by omega)) rfl rfl ?_; intro a hf
              refine rd hf rfl (yl_faddr Try.underlying31 rfl rfl sz_2 rfl) rfl rfl ?_; intro a hf
              refine rd hf rfl (yl_load Try.underlying2 rfl rfl ((hRc.els (.tail _ (.head _))).cell hj (f := 0) rfl)) rfl rfl ?_; intro a hf
              refine ef_call hf rfl (wanted_none _ _ rfl) rfl rfl (by kernel_rfl) (Spec.frame (L2 := []) (Has_spec0 S sv (hA.els (.tail _ (.tail _ (.head _)))) h0 r.id hT)) rfl (l' := [(109, _), (108, _), (107, _), (106, _), (105, _), (104, _), (100, _), (14, _), (12, _), (11, _), (10, _), (6, _)]) rfl ?_; rintro a w v L ⟨L1, ⟨rfl, rfl⟩, rfl⟩ hf hT
              refine rd hf rfl (yl_move rfl) rfl rfl ?_; intro a hf
              refine rd hf rfl (yl_extract rfl rfl) rfl rfl ?_; intro a hf
              refine rd hf rfl (yl_extract rfl rfl) rfl rfl ?_; intro a hf
              refine rd hf rfl (yl_assign rfl) rfl rfl ?_; intro a hf
              refine rd hf rfl (yl_assign rfl) rfl rfl ?_; intro a hf
              refine plan_nil ?_
              replace hf := hf.sel [16, 15, 14, 12, 11, 10, 6] (l' := [(16, _), (15, _), (14, _), (12, _), (11, _), (10, _), (6, _)]) rfl
              refine wpIn_seq ?_
              -- region 23 (outright.go:277)
              refine wp_reg ([]) ([_, _, _, _, _, _, _, _, _, _] ++ rs) [(0, true), (1, true), (2, true), (3, true), (4, true), (5, true)] mixed (by kernel_rfl) (hT) ?_; intro w hT
              refine rd hf rfl (yl_move rfl) rfl rfl ?_; intro a hf
              refine rd hf rfl (yl_cmp rfl rfl rfl) rfl rfl ?_; intro a hf
              refine rd hf rfl (yl_move rfl) rfl rfl ?_; intro a hf
              refine rdT hf rfl rfl rfl rfl (rfl) (yl_move rfl) rfl (l' := [(116, _), (115, _), (114, _), (113, _), (16, _), (15, _), (14, _), (12, _), (11, _), (10, _), (6, _)]) rfl ?_; intro a hf
              refine rdT hf rfl rfl rfl rfl (rfl) (yl_not rfl) rfl (l' := [(117, _), (116, _), (115, _), (114, _), (113, _), (16, _), (15, _), (14, _), (12, _), (11, _), (10, _), (6, _)]) rfl ?_; intro a hf
              refine rd hf rfl (yl_pickFF rfl rfl rfl) rfl rfl ?_; intro a hf
              refine plan_nil ?_
              replace hf := hf.sel [118, 14, 12, 11, 10, 6] (l' := [(118, _), (14, _), (12, _), (11, _), (10, _), (6, _)]) rfl
              refine wp_if hf rfl (fun hni => ?_) (fun hni => ?_)
              · -- then
                rw [hrin] at hni; cases hni
              · -- else
                refine wpIn_skip ?_
                -- region 21 (outright.go:275)
                refine wp_reg ([]) ([_, _, _, _, _, _, _, _, _, _] ++ rs) [(0, true), (1, true), (2, true)] mixed (by kernel_rfl) (hT) ?_; intro w hT
                refine rd hf rfl (yl_move rfl) rfl rfl ?_; intro a hf
                refine rd hf rfl (yl_add rfl rfl (by unfold inI64; omega)) rfl rfl ?_; intro a hf
                refine rw_ hf rfl (yl_assign rfl) rfl (l' := [(14, _), (102, _), (101, _), (118, _), (12, _), (11, _), (10, _), (6, _)]) rfl ?_; intro a hf
                refine plan_nil ?_
                replace hf := hf.sel [14, 12, 11, 10, 6] (l' := [(14, _), (12, _), (11, _), (10, _), (6, _)]) rfl
                exact ⟨k + 1, _, hf.sel [14, 12, 11, 10, 6] rfl, ⟨rfl, by omega⟩, hT, by first | omega | (dsimp only; omega)⟩
            · -- else
              refine wpIn_exit ?_
              refine then_exit ?_
              refine then_exit ?_
              refine inBlock_hit ?_
              refine wpIn_seq ?_
              -- region 25 (outright.go:281)
              refine wp_reg ([_, _, _, _, _]) ([_, _, _, _, _] ++ rs) [(0, true), (1, true), (2, false), (3, true), (4, true), (5, true), (6, true), (7, true)] mixed (by kernel_rfl) (hT.brings [7, 7, 7, 7, 7]) ?_; intro w hT
              refine rd hf rfl (yl_move rfl) rfl rfl ?_; intro a hf
              refine rd hf rfl (yl_move rfl) rfl rfl ?_; intro a hf
              replace hT : Tot _ _ ([_, _, _, _, _] ++ ([_, _, _, _, _] ++ rs)) := hT.bring 4
              replace hT : Tot _ _ ([_, _, _, _, _] ++ ([_, _, _, _, _] ++ rs)) := hT.bring 4
              replace hT : Tot _ _ ([_, _, _, _, _] ++ ([_, _, _, _, _] ++ rs)) := hT.bring 4
              replace hT : Tot _ _ ([_, _, _, _, _] ++ ([_, _, _, _, _] ++ rs)) := hT.bring 4
              replace hT : Tot _ _ ([_, _, _, _, _] ++ ([_, _, _, _, _] ++ rs)) := hT.bring 4
              refine ef_call hf rfl (wanted_none _ _ rfl) rfl rfl (by kernel_rfl) (Spec.frame (L2 := []) (Ack_spec b s _ hB hI (by omega) S sv (hA.els (.tail _ (.tail _ (.head _)))) hT)) rfl (l' := [(121, _), (120, _), (100, _), (14, _), (12, _), (11, _), (10, _), (6, _)]) rfl ?_; rintro a w v L ⟨L1, ⟨s', n, Lq, rfl, hBq, rfl, hR⟩, rfl⟩ hf hT
              obtain ⟨-, hs', hn'⟩ := hR.resolve_left (fun h => h.1 h0)
              obtain ⟨z0, z1, z2, z3, z4, rfl⟩ := hBq.five
              subst hn'
              rw [h0] at hf
              have hI' : Inv s' := hs' ▸ hI.ackTo S s.L.length
              have hL' : s'.L = s.L.filter (fun h => !inS S h.r.id) := by rw [hs']; exact ackTo_all S s
              have hll : s'.L.length ≤ s.L.length := by rw [hL']; exact List.length_filter_le _ _
              refine rd hf rfl (yl_move rfl) rfl rfl ?_; intro a hf
              refine rd hf rfl (yl_extract rfl rfl) rfl rfl ?_; intro a hf
              refine rd hf rfl (yl_extract rfl rfl) rfl rfl ?_; intro a hf
              refine rd hf rfl (yl_assign rfl) rfl rfl ?_; intro a hf
              refine rd hf rfl (yl_assign rfl) rfl rfl ?_; intro a hf
              refine plan_nil ?_
              replace hf := hf.sel [7, 17, 12, 10, 6] (l' := [(7, _), (17, _), (12, _), (10, _), (6, _)]) rfl
              refine wpIn_seq ?_
              -- region 26 (outright.go:282)
              refine wp_reg ([]) ([_, _, _, _, _, _, _, _, _, _] ++ rs) [(0, true), (1, false), (2, true)] mixed (by kernel_rfl) (hT) ?_; intro w hT
              refine rd hf rfl (yl_move rfl) rfl rfl ?_; intro a hf
              refine ef_call hf rfl (wanted_none _ _ rfl) rfl rfl (by kernel_rfl) (Spec.frame (L2 := []) (Held_spec b s' (hBq.inn (fun x hx => by rcases mem5 hx with rfl | rfl | rfl | rfl | rfl; exact .head _; exact .tail _ (.head _); exact .tail _ (.tail _ (.head _)); exact .tail _ (.tail _ (.tail _ (.head _))); exact .tail _ (.tail _ (.tail _ (.tail _ (.head _)))))) hI'.nd (by omega) hT)) rfl (l' := [(125, _), (7, _), (17, _), (12, _), (10, _), (6, _)]) rfl ?_; rintro a w now L ⟨L1, ⟨XH2, hH2, rfl⟩, rfl⟩ hf hT
              refine rd hf rfl (yl_assign rfl) rfl rfl ?_; intro a hf
              refine plan_nil ?_
              replace hf := hf.sel [18, 7, 17, 12, 10] (l' := [(18, _), (7, _), (17, _), (12, _), (10, _)]) rfl
              refine wpIn_seq ?_
              refine wpIn_seq ?_
              -- region 27 (outright.go:283)
              refine wp_reg ([]) ([_, _, _, _, _, _, _, _, _, _, _] ++ rs) [(0, true), (1, true), (2, true), (3, true), (4, true), (5, true), (6, true), (7, true), (8, true), (9, true), (10, true)] mixed (by kernel_rfl) (hT) ?_; intro w hT
              refine rd hf rfl (yl_move rfl) rfl rfl ?_; intro a hf
              refine rd hf rfl (yl_cmp rfl rfl rfl) rfl rfl ?_; intro a hf
              refine rd hf rfl (yl_move rfl) rfl rfl ?_; intro a hf
              refine rdT hf rfl rfl rfl rfl (rfl) (yl_move rfl) rfl (l' := [(130, _), (129, _), (128, _), (127, _), (18, _), (7, _), (17, _), (12, _), (10, _)]) rfl ?_; intro a hf
              refine rdT hf rfl rfl rfl rfl (rfl) (yl_move rfl) rfl (l' := [(131, _), (130, _), (129, _), (128, _), (127, _), (18, _), (7, _), (17, _), (12, _), (10, _)]) rfl ?_; intro a hf
              refine rdT hf rfl rfl rfl rfl (rfl) (yl_lenE rfl Try.underlying35 (hH1.els (.tail _ (.tail _ (.tail _ (.tail _ (.tail _ (.tail _ (.head _))))))))) rfl (l' := [(132, _), (131, _), (130, _), (129, _), (128, _), (127, _), (18, _), (7, _), (17, _), (12, _), (10, _)]) rfl ?_; intro a hf
              refine rdT hf rfl rfl rfl rfl (rfl) (yl_move rfl) rfl (l' := [(133, _), (132, _), (131, _), (130, _), (129, _), (128, _), (127, _), (18, _), (7, _), (17, _), (12, _), (10, _)]) rfl ?_; intro a hf
              refine rdT hf rfl rfl rfl rfl (rfl) (yl_lenE rfl Try.underlying35 (hH2.els (.head _))) rfl (l' := [(134, _), (133, _), (132, _), (131, _), (130, _), (129, _), (128, _), (127, _), (18, _), (7, _), (17, _), (12, _), (10, _)]) rfl ?_; intro a hf
              refine rdT hf rfl rfl rfl rfl (rfl) (yl_sub rfl rfl (by unfold inI64; omega)) rfl (l' := [(135, _), (134, _), (133, _), (132, _), (131, _), (130, _), (129, _), (128, _), (127, _), (18, _), (7, _), (17, _), (12, _), (10, _)]) rfl ?_; intro a hf
              refine rdT hf rfl rfl rfl rfl (rfl) (yl_cmp rfl rfl rfl) rfl (l' := [(136, _), (135, _), (134, _), (133, _), (132, _), (131, _), (130, _), (129, _), (128, _), (127, _), (18, _), (7, _), (17, _), (12, _), (10, _)]) rfl ?_; intro a hf
              refine rd hf rfl (yl_pickFF rfl rfl rfl) rfl rfl ?_; intro a hf
              refine plan_nil ?_
              replace hf := hf.sel [137, 18, 12, 10] (l' := [(137, _), (18, _), (12, _), (10, _)]) rfl
              refine wp_ifd hf rfl (fun hbad => ?_) (fun hbad => ?_)
              · -- then
                exact absurd rfl hbad
              · -- else
                refine wpIn_skip ?_
                refine wpIn_seq ?_
                -- region 29 (outright.go:286)
                refine wp_reg ([]) ([_, _, _, _, _, _, _, _, _, _, _] ++ rs) [(0, true)] mixed (by kernel_rfl) (hT) ?_; intro w hT
                refine rd hf rfl (yl_assign rfl) rfl rfl ?_; intro a hf
                refine plan_nil ?_
                refine wpIn_seq ?_
                refine wpIn_seq ?_
                -- region 30 (outright.go:287)
                refine wp_reg ([]) ([_, _, _, _, _, _, _, _, _, _, _] ++ rs) [(0, true)] mixed (by kernel_rfl) (hT) ?_; intro w hT
                refine rd hf rfl (yl_assign rfl) rfl rfl ?_; intro a hf
                refine plan_nil ?_
                refine wpIn_block ?_
                refine wp_loopS (σ := Nat) (fun k => [(20, .int .i64 (k : Nat)), (19, .int .i64 (((s.L.take k).filter (fun h : Hld => !inS S h.r.id)).length : Nat))]) [(18, _), (12, _), (10, _)] (fun k L => L = [] ∧ k ≤ s.L.length) (fun k => s.L.length - k) 0 (L := []) (R := [_, _, _, _, _, _, _, _, _, _, _] ++ rs) (hf.sel [20, 19, 18, 12, 10] rfl) (⟨rfl, Nat.zero_le _⟩) hT ?_
                clear hf hT; rintro k a w L hf ⟨rfl, hk⟩ hT
                replace hf : Fr _ [(20, .int .i64 (k : Nat)), (19, .int .i64 (((s.L.take k).filter (fun h : Hld => !inS S h.r.id)).length : Nat)), (18, _), (12, _), (10, _)] _ _ := hf
                refine wpIn_seq ?_
                refine wpIn_seq ?_
                -- region 31 (outright.go:287)
                refine wp_reg ([]) ([_, _, _, _, _, _, _, _, _, _, _] ++ rs) [(0, true), (1, true), (2, true), (3, true)] mixed (by kernel_rfl) (hT) ?_; intro w hT
                refine rd hf rfl (yl_move rfl) rfl rfl ?_; intro a hf
                refine rd hf rfl (yl_move rfl) rfl rfl ?_; intro a hf
                refine rd hf rfl (yl_lenE rfl Try.underlying35 (hH1.els (.tail _ (.tail _ (.tail _ (.tail _ (.tail _ (.tail _ (.head _))))))))) rfl rfl ?_; intro a hf
                refine rd hf rfl (yl_cmp rfl rfl rfl) rfl rfl ?_; intro a hf
                refine plan_nil ?_
                replace hf := hf.sel [141, 20, 19, 18, 12, 10] (l' := [(141, _), (20, _), (19, _), (18, _), (12, _), (10, _)]) rfl
                refine wp_ifd hf rfl (fun hlt => ?_) (fun hlt => ?_)
                · -- then
                  have hltk : k < s.L.length := by omega
                  obtain ⟨x, hlk'⟩ : ∃ x, s.L[k] = x := ⟨_, rfl⟩
                  have hj : s.L[k]? = some x := hlk' ▸ List.getElem?_eq_getElem hltk
                  refine wpIn_skip ?_
                  refine wpIn_seq ?_
                  refine wpIn_block ?_
                  refine wpIn_seq ?_
                  -- region 33 (outright.go:288)
                  refine wp_reg ([]) ([_, _, _, _, _, _, _, _, _, _, _] ++ rs) [(0, true), (1, true), (2, true), (3, true), (4, true), (5, true), (6, true), (7, false), (8, true), (9, true), (10, true), (11, true), (12, true)] mixed (by kernel_rfl) (hT) ?_; intro w hT
                  refine rd hf rfl (yl_move rfl) rfl rfl ?_; intro a hf
                  refine rd hf rfl (yl_move rfl) rfl rfl ?_; intro a hf
                  refine rd hf rfl (yl_move rfl) rfl rfl ?_; intro a hf
                  refine rd hf rfl (yl_indexE rfl rfl Try.underlying35 sz_44 (hH1.els (.tail _ (.tail _ (.tail _ (.tail _ (.tail _ (.tail _ (.head _)))))))) (by omega) (by omega)) rfl rfl ?_; intro a hf
                  refine rd hf rfl (yl_faddr Try.underlying44 rfl rfl sz_31 rfl) rfl rfl ?_; intro a hf
                  refine rd hf rfl (yl_faddr Try.underlying31 rfl rfl sz_2 rfl) rfl rfl ?_; intro a hf
                  refine rd hf rfl (yl_load Try.underlying2 rfl rfl ((hH1.els (.tail _ (.tail _ (.tail _ (.tail _ (.tail _ (.tail _ (.head _)))))))).cell hj (f := 0) rfl)) rfl rfl ?_; intro a hf
                  refine ef_call hf rfl (wanted_none _ _ rfl) rfl rfl (by kernel_rfl) (Spec.frame (L2 := []) (Has_spec0 S sv (hA.els (.tail _ (.tail _ (.tail _ (.tail _ (.tail _ (.tail _ (.tail _ (.tail _ (.head _)))))))))) h0 x.r.id hT)) rfl (l' := [(151, _), (150, _), (149, _), (148, _), (147, _), (146, _), (145, _), (141, _), (20, _), (19, _), (18, _), (12, _), (10, _)]) rfl ?_; rintro a w v L ⟨L1, ⟨rfl, rfl⟩, rfl⟩ hf hT
                  refine rd hf rfl (yl_move rfl) rfl rfl ?_; intro a hf
                  refine rd hf rfl (yl_extract rfl rfl) rfl rfl ?_; intro a hf
                  refine rd hf rfl (yl_extract rfl rfl) rfl rfl ?_; intro a hf
                  refine rd hf rfl (yl_assign rfl) rfl rfl ?_; intro a hf
                  refine rd hf rfl (yl_assign rfl) rfl rfl ?_; intro a hf
                  refine plan_nil ?_
                  replace hf := hf.sel [22, 21, 20, 19, 18, 12, 10] (l' := [(22, _), (21, _), (20, _), (19, _), (18, _), (12, _), (10, _)]) rfl
                  refine wpIn_seq ?_
                  refine wpIn_seq ?_
                  -- region 34 (outright.go:289)
                  refine wp_reg ([]) ([_, _, _, _, _, _, _, _, _, _, _] ++ rs) [(0, true), (1, true)] mixed (by kernel_rfl) (hT) ?_; intro w hT
                  refine rd hf rfl (yl_move rfl) rfl rfl ?_; intro a hf
                  refine rd hf rfl (yl_cmp rfl rfl rfl) rfl rfl ?_; intro a hf
                  refine plan_nil ?_
                  refine wp_ifFF hf rfl (rfl) ?_
                  refine wpIn_skip ?_
                  refine wpIn_seq ?_
                  refine wpIn_seq ?_
                  -- region 36 (outright.go:292)
                  refine wp_reg ([]) ([_, _, _, _, _, _, _, _, _, _, _] ++ rs) [(0, true)] mixed (by kernel_rfl) (hT) ?_; intro w hT
                  refine rd hf rfl (yl_move rfl) rfl rfl ?_; intro a hf
                  refine plan_nil ?_
                  replace hf := hf.sel [157, 20, 19, 18, 12, 10] (l' := [(157, _), (20, _), (19, _), (18, _), (12, _), (10, _)]) rfl
                  refine wp_if hf rfl (fun his => ?_) (fun his => ?_)
                  · -- then
                    refine wpIn_exit ?_
                    refine then_exit ?_
                    refine inBlock_hit ?_
                    -- region 32 (outright.go:287)
                    refine wp_reg ([]) ([_, _, _, _, _, _, _, _, _, _, _] ++ rs) [(0, true), (1, true), (2, true)] mixed (by kernel_rfl) (hT) ?_; intro w hT
                    refine rd hf rfl (yl_move rfl) rfl rfl ?_; intro a hf
                    refine rd hf rfl (yl_add rfl rfl (by unfold inI64; omega)) rfl rfl ?_; intro a hf
                    refine rw_ hf rfl (yl_assign rfl) rfl (l' := [(20, _), (143, _), (142, _), (157, _), (19, _), (18, _), (12, _), (10, _)]) rfl ?_; intro a hf
                    refine plan_nil ?_
                    replace hf := hf.sel [20, 19, 18, 12, 10] (l' := [(20, _), (19, _), (18, _), (12, _), (10, _)]) rfl
                    exact ⟨k + 1, _, (by have h := hf.sel [20, 19, 18, 12, 10] (l' := [(20, _), (19, _), (18, _), (12, _), (10, _)]) rfl; rw [take_filter_succ (fun h : Hld => !inS S h.r.id) s.L hltk, if_neg (by rw [hlk']; simp only [his]; decide), List.length_append]; exact h), ⟨rfl, by omega⟩, hT, by first | omega | (dsimp only; omega)⟩
                  · -- else
                    have hnth := filter_nth (fun h : Hld => !inS S h.r.id) s.L hltk (by rw [hlk']; simp only [his]; rfl)
                    rw [← hL', hlk'] at hnth
                    have hjn : s'.L[((s.L.take k).filter (fun h : Hld => !inS S h.r.id)).length]? = some x := hnth
                    have hatl : ((s.L.take k).filter (fun h : Hld => !inS S h.r.id)).length < s'.L.length := (List.getElem?_eq_some_iff.1 hnth).1
                    refine wpIn_skip ?_
                    refine wpIn_seq ?_
                    refine wpIn_seq ?_
                    -- region 37 (outright.go:295)
                    refine wp_reg ([]) ([_, _, _, _, _, _, _, _, _, _, _] ++ rs) [(0, true), (1, true), (2, true), (3, true), (4, true), (5, true), (6, true), (7, true), (8, true), (9, true), (10, true), (11, true), (12, true), (13, true), (14, true)] mixed (by kernel_rfl) (hT) ?_; intro w hT
                    refine rd hf rfl (yl_move rfl) rfl rfl ?_; intro a hf
                    refine rd hf rfl (yl_move rfl) rfl rfl ?_; intro a hf
                    refine rd hf rfl (yl_lenE rfl Try.underlying35 (hH2.els (.head _))) rfl rfl ?_; intro a hf
                    refine rd hf rfl (yl_cmp rfl rfl rfl) rfl rfl ?_; intro a hf
                    refine rd hf rfl (yl_move rfl) rfl rfl ?_; intro a hf
                    refine rdT hf rfl rfl rfl rfl (by first | exact (decide_eq_false (by omega)) | simp [(decide_eq_false (by omega))]) (yl_move rfl) rfl (l' := [(163, _), (162, _), (161, _), (160, _), (159, _), (158, _), (157, _), (20, _), (19, _), (18, _), (12, _), (10, _)]) rfl ?_; intro a hf
                    refine rdT hf rfl rfl rfl rfl (by first | exact (decide_eq_false (by omega)) | simp [(decide_eq_false (by omega))]) (yl_move rfl) rfl (l' := [(164, _), (163, _), (162, _), (161, _), (160, _), (159, _), (158, _), (157, _), (20, _), (19, _), (18, _), (12, _), (10, _)]) rfl ?_; intro a hf
                    refine rdT hf rfl rfl rfl rfl (by first | exact (decide_eq_false (by omega)) | simp [(decide_eq_false (by omega))]) (yl_indexE rfl rfl Try.underlying35 sz_44 (hH2.els (.head _)) (by omega) (by omega)) rfl (l' := [(165, _), (164, _), (163, _), (162, _), (161, _), (160, _), (159, _), (158, _), (157, _), (20, _), (19, _), (18, _), (12, _), (10, _)]) rfl ?_; intro a hf
                    refine rdT hf rfl rfl rfl rfl (by first | exact (decide_eq_false (by omega)) | simp [(decide_eq_false (by omega))]) (yl_loadA Try.underlying44 rfl sz_44 rfl ((hH2.els (.head _)).row hjn) rfl) rfl (l' := [(166, _), (165, _), (164, _), (163, _), (162, _), (161, _), (160, _), (159, _), (158, _), (157, _), (20, _), (19, _), (18, _), (12, _), (10, _)]) rfl ?_; intro a hf
                    refine rdT hf rfl rfl rfl rfl (by first | exact (decide_eq_false (by omega)) | simp [(decide_eq_false (by omega))]) (yl_move rfl) rfl (l' := [(167, _), (166, _), (165, _), (164, _), (163, _), (162, _), (161, _), (160, _), (159, _), (158, _), (157, _), (20, _), (19, _), (18, _), (12, _), (10, _)]) rfl ?_; intro a hf
                    refine rdT hf rfl rfl rfl rfl (by first | exact (decide_eq_false (by omega)) | simp [(decide_eq_false (by omega))]) (yl_move rfl) rfl (l' := [(168, _), (167, _), (166, _), (165, _), (164, _), (163, _), (162, _), (161, _), (160, _), (159, _), (158, _), (157, _), (20, _), (19, _), (18, _), (12, _), (10, _)]) rfl ?_; intro a hf
                    refine rdT hf rfl rfl rfl rfl (by first | exact (decide_eq_false (by omega)) | simp [(decide_eq_false (by omega))]) (yl_indexE rfl rfl Try.underlying35 sz_44 (hH1.els (.tail _ (.tail _ (.tail _ (.tail _ (.tail _ (.tail _ (.head _)))))))) (by omega) (by omega)) rfl (l' := [(169, _), (168, _), (167, _), (166, _), (165, _), (164, _), (163, _), (162, _), (161, _), (160, _), (159, _), (158, _), (157, _), (20, _), (19, _), (18, _), (12, _), (10, _)]) rfl ?_; intro a hf
                    refine rdT hf rfl rfl rfl rfl (by first | exact (decide_eq_false (by omega)) | simp [(decide_eq_false (by omega))]) (yl_loadA Try.underlying44 rfl sz_44 rfl ((hH1.els (.tail _ (.tail _ (.tail _ (.tail _ (.tail _ (.tail _ (.head _)))))))).row hj) rfl) rfl (l' := [(170, _), (169, _), (168, _), (167, _), (166, _), (165, _), (164, _), (163, _), (162, _), (161, _), (160, _), (159, _), (158, _), (157, _), (20, _), (19, _), (18, _), (12, _), (10, _)]) rfl ?_; intro a hf
                    refine rdT hf rfl rfl rfl rfl (by first | exact (decide_eq_false (by omega)) | simp [(decide_eq_false (by omega))]) (yl_aggEq (k := 3) rfl rfl (by kernel_rfl) (by decide) (eqH x x) rfl) rfl (l' := [(171, _), (170, _), (169, _), (168, _), (167, _), (166, _), (165, _), (164, _), (163, _), (162, _), (161, _), (160, _), (159, _), (158, _), (157, _), (20, _), (19, _), (18, _), (12, _), (10, _)]) rfl ?_; intro a hf
                    refine rd hf rfl (yl_pickFF rfl (decide_eq_false (by omega)) rfl) rfl rfl ?_; intro a hf
                    refine plan_nil ?_
                    replace hf := hf.sel [172, 20, 19, 18, 12, 10] (l' := [(172, _), (20, _), (19, _), (18, _), (12, _), (10, _)]) rfl
                    refine wp_if hf rfl (fun hne => ?_) (fun hne => ?_)
                    · -- then
                      simp at hne
                    · -- else
                      refine wpIn_skip ?_
                      -- region 39 (outright.go:298)
                      refine wp_reg ([]) ([_, _, _, _, _, _, _, _, _, _, _] ++ rs) [(0, true), (1, true), (2, true)] mixed (by kernel_rfl) (hT) ?_; intro w hT
                      refine rd hf rfl (yl_move rfl) rfl rfl ?_; intro a hf
                      refine rd hf rfl (yl_add rfl rfl (by unfold inI64; omega)) rfl rfl ?_; intro a hf
                      refine rw_ hf rfl (yl_assign rfl) rfl (l' := [(19, _), (174, _), (173, _), (172, _), (20, _), (18, _), (12, _), (10, _)]) rfl ?_; intro a hf
                      refine plan_nil ?_
                      replace hf := hf.sel [19, 20, 18, 12, 10] (l' := [(19, _), (20, _), (18, _), (12, _), (10, _)]) rfl
                      -- region 32 (outright.go:287)
                      refine wp_reg ([]) ([_, _, _, _, _, _, _, _, _, _, _] ++ rs) [(0, true), (1, true), (2, true)] mixed (by kernel_rfl) (hT) ?_; intro w hT
                      refine rd hf rfl (yl_move rfl) rfl rfl ?_; intro a hf
                      refine rd hf rfl (yl_add rfl rfl (by unfold inI64; omega)) rfl rfl ?_; intro a hf
                      refine rw_ hf rfl (yl_assign rfl) rfl (l' := [(20, _), (143, _), (142, _), (19, _), (18, _), (12, _), (10, _)]) rfl ?_; intro a hf
                      refine plan_nil ?_
                      exact ⟨k + 1, _, (by have h := hf.sel [20, 19, 18, 12, 10] (l' := [(20, _), (19, _), (18, _), (12, _), (10, _)]) rfl; rw [take_filter_succ (fun h : Hld => !inS S h.r.id) s.L hltk, if_pos (by rw [hlk']; simp only [his]; rfl), List.length_append]; exact h), ⟨rfl, by omega⟩, hT, by first | omega | (dsimp only; omega)⟩
                · -- else
                  obtain rfl : k = s.L.length := by omega
                  rw [List.take_length, ← hL'] at hf
                  refine wpIn_exit ?_
                  refine then_exit ?_
                  refine then_exit ?_
                  refine inBlock_hit ?_
                  refine wpIn_seq ?_
                  -- region 40 (outright.go:300)
                  refine wp_reg ([]) ([_, _, _, _, _, _, _, _, _, _, _] ++ rs) [(0, true), (1, true), (2, true), (3, true), (4, true), (5, false), (6, true), (7, true)] mixed (by kernel_rfl) (hT) ?_; intro w hT
                  refine rd hf rfl (yl_move rfl) rfl rfl ?_; intro a hf
                  refine rd hf rfl (yl_move rfl) rfl rfl ?_; intro a hf
                  refine rd hf rfl (yl_lenE rfl Try.underlying35 (hH2.els (.head _))) rfl rfl ?_; intro a hf
                  refine rd hf rfl (yl_cmp rfl rfl rfl) rfl rfl ?_; intro a hf
                  refine rd hf rfl (yl_move rfl) rfl rfl ?_; intro a hf
                  refine ef_call hf rfl (by rw [wanted_some hf rfl rfl rfl rfl]; first | exact beqT (decide_eq_true rfl) | simp [(decide_eq_true rfl)]) rfl rfl (by kernel_rfl) (Spec.frame (L2 := []) (fine_spec hT)) rfl (l' := [(179, _), (178, _), (177, _), (176, _), (175, _), (141, _), (20, _), (19, _), (18, _), (12, _), (10, _)]) rfl ?_; rintro a w v L ⟨L1, ⟨rfl, rfl⟩, rfl⟩ hf hT
                  refine rd hf rfl (yl_pickTT rfl (decide_eq_true rfl) rfl) rfl rfl ?_; intro a hf
                  refine rd hf rfl (yl_assign rfl) rfl rfl ?_; intro a hf
                  refine plan_nil ?_
                  replace hf := hf.sel [4] (l' := [(4, _)]) rfl
                  refine wpIn_ret ?_
                  exact body_ret hf (L := []) hT.tail.tail.tail.tail.tail.tail.tail.tail.tail.tail.tail rfl rfl ⟨rfl, rfl⟩
end Go.Proofs.Ytjhbgciocffihaa
