-- written by gen.py out of walks texts of my own
import Derived.Test.YtjhbgciocffihaaB17
set_option linter.unusedVariables false
set_option linter.unusedSimpArgs false
set_option maxHeartbeats 4000000
namespace Go.Proofs.Ytjhbgciocffihaa
theorem Burst5_spec {e : Env} {w : World} {rs : List Part} (b : Nat) (s : BS) (Lb : List Part) (hB : BufR b s Lb) (hI : Inv s) (hlen : s.L.length ≤ 256) (htime : 0 ≤ s.time) (n t wt : Int) (hT : Tot e w (Lb ++ rs)) :
    Spec Try.prog 21 #[.pointer (some ⟨b, 0, none⟩), .int .i64 n, .int .i64 t, .int .i64 wt] e w rs (fun v L => ∃ s' d er q X Lb', v = .tuple #[q, .int .i64 er] ∧ Sl encI 2 q d X ∧ BufR b s' Lb' ∧ L = X :: Lb' ∧ ((Oor s n t wt ∧ er = 3 ∧ s' = s ∧ d = []) ∨ (¬ Oor s n t wt ∧ er = 0 ∧ s' = bst s n t wt ∧ d = (bf n t wt s.L).2))) := by
  obtain ⟨vo, xo, L4, rfl, hS, hBM⟩ := hB
  refine (Burst_spec b s vo xo L4 hS hBM hI hlen htime n t wt hT).monoT fun v L w' h hT' => ?_
  by_cases h1 : Oor s n t wt
  · rw [if_pos h1] at h
    exact ⟨_ :: L, ⟨s, [], 3, _, _, L, h.1, sl_nil, h.2, rfl, .inl ⟨h1, rfl, rfl, rfl⟩⟩, hT'.emp⟩
  · rw [if_neg h1] at h
    obtain ⟨q, X, Lb', hv, hD, hB', hL⟩ := h
    exact ⟨L, ⟨_, _, 0, q, X, Lb', hv, hD, hB', hL, .inr ⟨h1, rfl, rfl, rfl⟩⟩, hT'⟩
theorem PutRes.time {s s' : BS} {r : Rec} {d : List Int} {e : Int} (h : PutRes s r s' d e) : s'.time = s.time := by
  rcases h with ⟨_, _, rfl, _⟩ | ⟨_, _, _, rfl, _⟩ | ⟨_, _, _, _, rfl, _⟩ | ⟨h1, h2, _, _, hG, _⟩
  · rfl
  · rfl
  · rfl
  · exact hG.capt.2
theorem PutRes.len1 {s s' : BS} {r : Rec} {d : List Int} {e : Int} (h : PutRes s r s' d e) (hI : Inv s) : s'.L.length ≤ s.L.length + 1 := by
  rcases h with ⟨_, _, rfl, _⟩ | ⟨_, _, _, rfl, _⟩ | ⟨_, _, _, _, rfl, _⟩ | ⟨h1, h2, _, _, hG, _⟩
  · omega
  · omega
  · omega
  · obtain ⟨ds, _, hr⟩ := hG.recs (hI.ins h1 h2)
    have hl := congrArg List.length hr
    have h0 : (insB s r).L.length = s.L.length + 1 := (ins_perm s.L r).length_eq
    simp only [List.length_append, List.length_map, List.length_reverse, h0] at hl
    omega
structure Tri where
  a : Int
  b : Int
  c : Int
def Tri.cells (p : Tri) : List Value := [.int .u8 p.a, .int .u8 p.b, .int .u8 p.c]
def encTri : Enc Tri := ⟨Tri.cells, 3, fun _ => rfl, fun a u h => by simp [Tri.cells] at h; rcases h with rfl | rfl | rfl <;> rfl, by decide⟩
def Tri.Ok (p : Tri) : Prop := (0 ≤ p.a ∧ p.a ≤ 255) ∧ (0 ≤ p.b ∧ p.b ≤ 255) ∧ (0 ≤ p.c ∧ p.c ≤ 255)
theorem bst_get {s : BS} {n t wt : Int} (hn : (ids s.L).Nodup) {k : Nat} (hk : k < s.L.length) (hk2 : k < (bst s n t wt).L.length) : (bst s n t wt).L[k] = if s.L[k].r.id ∈ (bf n t wt s.L).2 then { s.L[k] with sent := t } else s.L[k] := by
  show (setSent _ _ _)[k] = _
  simp only [setSent, List.getElem_map]; rfl
theorem BufferBursts_spec {e : Env} {w : World} {rs : List Part} (c : Int) (hc : 0 ≤ c ∧ c ≤ 65535) (pcs : List Pc) (hPc : ∀ p ∈ pcs, p.Ok) (trs : List Tri) (hTr : ∀ p ∈ trs, p.Ok) (v1 v2 : Value) (hE : Els encPc rs v1 pcs) (hE2 : Els encTri rs v2 trs) (hT : Tot e w rs) : Spec Try.prog 4 #[.int .u16 c, v1, v2] e w rs (fun v L => v = .bool true ∧ L = []) := by
  refine spec_body Try.func4 rfl Try.ntmps4 rfl rfl ?_
  intro a hf
  refine wpIn_seq ?_
  -- region 0 (outright.go:116)
  refine wp_reg ([]) ([] ++ rs) [(0, true)] mixed (by kernel_rfl) (hT) ?_; intro w hT
  refine rd hf rfl (yl_assign rfl) rfl rfl ?_; intro a hf
  refine plan_nil ?_
  refine wpIn_seq ?_
  refine wpIn_seq ?_
  -- region 1 (outright.go:117)
  refine wp_reg ([]) ([] ++ rs) [(0, true), (1, true), (2, true), (3, true), (4, true), (5, true), (6, true), (7, true)] mixed (by kernel_rfl) (hT) ?_; intro w hT
  refine rd hf rfl (yl_move rfl) rfl rfl ?_; intro a hf
  refine rd hf rfl (yl_lenE rfl Try.underlying23 hE.app) rfl rfl ?_; intro a hf
  refine rd hf rfl (yl_cmp rfl rfl rfl) rfl rfl ?_; intro a hf
  refine rd hf rfl (yl_move rfl) rfl rfl ?_; intro a hf
  by_cases hg3 : (30 : Int) < (pcs.length : Nat)
  · have hgT1 : decide ((30 : Int) < (pcs.length : Nat)) = true := by simpa using hg3
    refine rdF hf rfl rfl rfl rfl (by first | exact hgT1 | simp [hgT1]) rfl (l' := [(27, _), (26, _), (25, _), (24, _), (23, _), (6, _), (0, _), (1, _), (2, _)]) rfl ?_; intro a hf
    refine rdF hf rfl rfl rfl rfl (by first | exact hgT1 | simp [hgT1]) rfl (l' := [(28, _), (27, _), (26, _), (25, _), (24, _), (23, _), (6, _), (0, _), (1, _), (2, _)]) rfl ?_; intro a hf
    refine rdF hf rfl rfl rfl rfl (by first | exact hgT1 | simp [hgT1]) rfl (l' := [(29, _), (28, _), (27, _), (26, _), (25, _), (24, _), (23, _), (6, _), (0, _), (1, _), (2, _)]) rfl ?_; intro a hf
    refine rd hf rfl (yl_pickTT rfl hgT1 rfl) rfl rfl ?_; intro a hf
    refine plan_nil ?_
    replace hf := hf.sel [30, 0, 1, 2] (l' := [(30, _), (0, _), (1, _), (2, _)]) rfl
    refine wp_ifTT hf rfl (rfl) ?_
    refine wpIn_seq ?_
    -- region 2 (outright.go:118)
    refine wp_reg ([]) ([] ++ rs) [(0, false), (1, true)] mixed (by kernel_rfl) (hT) ?_; intro w hT
    refine ef_call hf rfl (wanted_none _ _ rfl) rfl rfl (by kernel_rfl) (Spec.frame (L2 := []) (fine_spec hT)) rfl (l' := [(30, _), (0, _), (1, _), (2, _)]) rfl ?_; rintro a w v L ⟨L1, ⟨rfl, rfl⟩, rfl⟩ hf hT
    refine rd hf rfl (yl_assign rfl) rfl rfl ?_; intro a hf
    refine plan_nil ?_
    replace hf := hf.sel [6] (l' := [(6, _)]) rfl
    refine wpIn_ret ?_
    exact body_ret hf (L := []) hT rfl rfl ⟨rfl, rfl⟩
  · have hgT1 : decide ((30 : Int) < (pcs.length : Nat)) = false := by simpa using hg3
    refine rdT hf rfl rfl rfl rfl (by first | exact hgT1 | simp [hgT1]) (yl_move rfl) rfl (l' := [(27, _), (26, _), (25, _), (24, _), (23, _), (6, _), (0, _), (1, _), (2, _)]) rfl ?_; intro a hf
    refine rdT hf rfl rfl rfl rfl (by first | exact hgT1 | simp [hgT1]) (yl_lenE rfl Try.underlying49 hE2.app) rfl (l' := [(28, _), (27, _), (26, _), (25, _), (24, _), (23, _), (6, _), (0, _), (1, _), (2, _)]) rfl ?_; intro a hf
    refine rdT hf rfl rfl rfl rfl (by first | exact hgT1 | simp [hgT1]) (yl_cmp rfl rfl rfl) rfl (l' := [(29, _), (28, _), (27, _), (26, _), (25, _), (24, _), (23, _), (6, _), (0, _), (1, _), (2, _)]) rfl ?_; intro a hf
    refine rd hf rfl (yl_pickFF rfl hgT1 rfl) rfl rfl ?_; intro a hf
    refine plan_nil ?_
    replace hf := hf.sel [30, 0, 1, 2] (l' := [(30, _), (0, _), (1, _), (2, _)]) rfl
    refine wp_ifd hf rfl (fun h10 => ?_) (fun h10 => ?_)
    · -- then
      refine wpIn_seq ?_
      -- region 2 (outright.go:118)
      refine wp_reg ([]) ([] ++ rs) [(0, false), (1, true)] mixed (by kernel_rfl) (hT) ?_; intro w hT
      refine ef_call hf rfl (wanted_none _ _ rfl) rfl rfl (by kernel_rfl) (Spec.frame (L2 := []) (fine_spec hT)) rfl (l' := [(30, _), (0, _), (1, _), (2, _)]) rfl ?_; rintro a w v L ⟨L1, ⟨rfl, rfl⟩, rfl⟩ hf hT
      refine rd hf rfl (yl_assign rfl) rfl rfl ?_; intro a hf
      refine plan_nil ?_
      replace hf := hf.sel [6] (l' := [(6, _)]) rfl
      refine wpIn_ret ?_
      exact body_ret hf (L := []) hT rfl rfl ⟨rfl, rfl⟩
    · -- else
      refine wpIn_skip ?_
      refine wpIn_seq ?_
      -- region 3 (outright.go:120)
      refine wp_reg ([]) ([] ++ rs) [(0, true), (1, true), (2, true), (3, true), (4, false), (5, true), (6, true), (7, true), (8, true), (9, true)] mixed (by kernel_rfl) (hT) ?_; intro w hT
      refine rd hf rfl (yl_move rfl) rfl rfl ?_; intro a hf
      refine rd hf rfl (yl_conv64 rfl Try.underlying22 Try.underlying2 (by unfold inI64; omega)) rfl rfl ?_; intro a hf
      refine rd hf rfl (yl_rem rfl rfl (by omega) (by omega)) rfl rfl ?_; intro a hf
      refine rd hf rfl (yl_add rfl rfl (by unfold inI64; omega)) rfl rfl ?_; intro a hf
      refine ef_call hf rfl (wanted_none _ _ rfl) rfl rfl (by kernel_rfl) (Spec.frame (L2 := []) ((New_spec (1 + c % 3000) hT).mono (fun v L h => by rw [if_pos (⟨by omega, by omega⟩)] at h; exact h))) rfl (l' := [(36, _), (35, _), (34, _), (33, _), (30, _), (0, _), (1, _), (2, _)]) rfl ?_; rintro a w v L ⟨L1, ⟨b, rfl, hB0⟩, rfl⟩ hf hT
      obtain ⟨y0, y1, y2, y3, y4, rfl⟩ := hB0.five
      refine rd hf rfl (yl_move rfl) rfl rfl ?_; intro a hf
      refine rd hf rfl (yl_extract rfl rfl) rfl rfl ?_; intro a hf
      refine rd hf rfl (yl_extract rfl rfl) rfl rfl ?_; intro a hf
      refine rd hf rfl (yl_assign rfl) rfl rfl ?_; intro a hf
      refine rd hf rfl (yl_assign rfl) rfl rfl ?_; intro a hf
      refine plan_nil ?_
      replace hf := hf.sel [8, 7, 1, 2] (l' := [(8, _), (7, _), (1, _), (2, _)]) rfl
      refine wpIn_seq ?_
      refine wpIn_seq ?_
      -- region 4 (outright.go:121)
      refine wp_reg ([]) ([_, _, _, _, _] ++ rs) [(0, true), (1, true), (2, true), (3, true), (4, true), (5, true)] mixed (by kernel_rfl) (hT) ?_; intro w hT
      refine rd hf rfl (yl_move rfl) rfl rfl ?_; intro a hf
      refine rd hf rfl (yl_cmp rfl rfl rfl) rfl rfl ?_; intro a hf
      refine rd hf rfl (yl_move rfl) rfl rfl ?_; intro a hf
      refine rdT hf rfl rfl rfl rfl (rfl) (yl_move rfl) rfl (l' := [(43, _), (42, _), (41, _), (40, _), (8, _), (7, _), (1, _), (2, _)]) rfl ?_; intro a hf
      refine rdT hf rfl rfl rfl rfl (rfl) (yl_ptrNil rfl rfl Try.underlying25 rfl) rfl (l' := [(44, _), (43, _), (42, _), (41, _), (40, _), (8, _), (7, _), (1, _), (2, _)]) rfl ?_; intro a hf
      refine rd hf rfl (yl_pickFF rfl rfl rfl) rfl rfl ?_; intro a hf
      refine plan_nil ?_
      replace hf := hf.sel [45, 7, 1, 2] (l' := [(45, _), (7, _), (1, _), (2, _)]) rfl
      refine wp_ifFF hf rfl (rfl) ?_
      refine wpIn_skip ?_
      refine wpIn_seq ?_
      refine wpIn_seq ?_
      -- region 6 (outright.go:124)
      refine wp_reg ([]) ([_, _, _, _, _] ++ rs) [(0, true)] mixed (by kernel_rfl) (hT) ?_; intro w hT
      refine rd hf rfl (yl_assign rfl) rfl rfl ?_; intro a hf
      refine plan_nil ?_
      refine wpIn_block ?_
      have hlen := hE.len_le
      have hlen2 := hE2.len_le
      replace hT := hT.bring 4
      replace hT := hT.bring 4
      replace hT := hT.bring 4
      replace hT := hT.bring 4
      replace hT := hT.bring 4
      refine wp_loopS (σ := Nat × BS) (fun (i, s) => [(9, .int .i64 (i : Nat))]) [(7, _), (1, _), (2, _)] (fun (i, s) L => (Inv s ∧ s.L.length ≤ i ∧ s.time = 0) ∧ i ≤ pcs.length ∧ ∃ y0 y1 y2 y3 y4, BufR b s [y0, y1, y2, y3, y4] ∧ L = [y0, y1, y2, y3, y4]) (fun (i, s) => pcs.length - i) (0, ⟨1 + c % 3000, 0, 0, []⟩) (L := [_, _, _, _, _]) (R := [] ++ rs) (hf.sel [9, 7, 1, 2] rfl) (⟨⟨inv0 _ ⟨by omega, by omega⟩, Nat.le_refl _, rfl⟩, Nat.zero_le _, _, _, _, _, _, hB0, rfl⟩) hT ?_
      clear hf hT; rintro ⟨i, s⟩ a w L hf ⟨⟨hI, hli, hti⟩, hi, y0, y1, y2, y3, y4, hB, rfl⟩ hT
      replace hf : Fr _ [(9, .int .i64 (i : Nat)), (7, _), (1, _), (2, _)] _ _ := hf
      refine wpIn_seq ?_
      refine wpIn_seq ?_
      -- region 7 (outright.go:124)
      refine wp_reg ([]) ([_, _, _, _, _] ++ rs) [(0, true), (1, true), (2, true), (3, true)] mixed (by kernel_rfl) (hT) ?_; intro w hT
      refine rd hf rfl (yl_move rfl) rfl rfl ?_; intro a hf
      refine rd hf rfl (yl_move rfl) rfl rfl ?_; intro a hf
      refine rd hf rfl (yl_lenE rfl Try.underlying23 hE.app) rfl rfl ?_; intro a hf
      refine rd hf rfl (yl_cmp rfl rfl rfl) rfl rfl ?_; intro a hf
      refine plan_nil ?_
      replace hf := hf.sel [49, 9, 7, 1, 2] (l' := [(49, _), (9, _), (7, _), (1, _), (2, _)]) rfl
      refine wp_ifd hf rfl (fun hlt => ?_) (fun hlt => ?_)
      · -- then
        have hlt' : i < pcs.length := by omega
        have hj : pcs[i]? = some pcs[i] := List.getElem?_eq_getElem hlt'
        have hpo := hPc pcs[i] (List.getElem_mem hlt')
        generalize pcs[i] = p at hj hpo
        have hpr := Pc.toR_ok hpo
        refine wpIn_skip ?_
        refine wpIn_seq ?_
        refine wpIn_block ?_
        -- region 9 (outright.go:125)
        refine wp_reg ([_, _, _, _, _]) ([] ++ rs) [(0, true), (1, true), (2, true), (3, true), (4, true), (5, false), (6, false)] mixed (by kernel_rfl) (hT.brings [4, 4, 4, 4, 4]) ?_; intro w hT
        refine rd hf rfl (yl_move rfl) rfl rfl ?_; intro a hf
        refine rd hf rfl (yl_move rfl) rfl rfl ?_; intro a hf
        refine rd hf rfl (yl_move rfl) rfl rfl ?_; intro a hf
        refine rd hf rfl (yl_indexE rfl rfl Try.underlying23 sz_33 hE.app (by omega) (by omega)) rfl rfl ?_; intro a hf
        refine rd hf rfl (yl_loadA Try.underlying33 rfl sz_33 rfl (hE.app.row hj) rfl) rfl rfl ?_; intro a hf
        refine ef_call hf rfl (wanted_none _ _ rfl) rfl rfl (by kernel_rfl) (Spec.frame (L2 := [_, _, _, _, _]) (record_spec p hpo hT)) rfl (l' := [(56, _), (55, _), (54, _), (53, _), (52, _), (49, _), (9, _), (7, _), (1, _), (2, _)]) rfl ?_; rintro a w v L ⟨L1, ⟨rfl, rfl⟩, rfl⟩ hf hT
        replace hT : Tot _ _ ([_, _, _, _, _] ++ ([] ++ rs)) := hT.bring 4
        replace hT : Tot _ _ ([_, _, _, _, _] ++ ([] ++ rs)) := hT.bring 4
        replace hT : Tot _ _ ([_, _, _, _, _] ++ ([] ++ rs)) := hT.bring 4
        replace hT : Tot _ _ ([_, _, _, _, _] ++ ([] ++ rs)) := hT.bring 4
        replace hT : Tot _ _ ([_, _, _, _, _] ++ ([] ++ rs)) := hT.bring 4
        refine ef_call hf rfl (wanted_none _ _ rfl) rfl rfl (by kernel_rfl) (Spec.frame (L2 := []) (Put5_spec b s _ hB hI (by omega) p.toR hT)) rfl (l' := [(57, _), (56, _), (55, _), (54, _), (53, _), (52, _), (49, _), (9, _), (7, _), (1, _), (2, _)]) rfl ?_; rintro a w v L ⟨L1, ⟨s', d, er, q, XQ, Lp, rfl, hD, hBp, rfl, hR⟩, rfl⟩ hf hT
        obtain ⟨z0, z1, z2, z3, z4, rfl⟩ := hBp.five
        refine plan_nil ?_
        replace hf := hf.sel [9, 7, 1, 2] (l' := [(9, _), (7, _), (1, _), (2, _)]) rfl
        -- region 8 (outright.go:124)
        refine wp_reg ([]) ([_, _, _, _, _, _] ++ rs) [(0, true), (1, true), (2, true)] mixed (by kernel_rfl) (hT) ?_; intro w hT
        refine rd hf rfl (yl_move rfl) rfl rfl ?_; intro a hf
        refine rd hf rfl (yl_add rfl rfl (by unfold inI64; omega)) rfl rfl ?_; intro a hf
        refine rw_ hf rfl (yl_assign rfl) rfl (l' := [(9, _), (51, _), (50, _), (7, _), (1, _), (2, _)]) rfl ?_; intro a hf
        refine plan_nil ?_
        exact ⟨(i + 1, s'), _, hf.sel [9, 7, 1, 2] rfl, ⟨⟨hR.inv hI, by have := hR.len1 hI; omega, by rw [hR.time]; exact hti⟩, by omega, _, _, _, _, _, hBp, rfl⟩, (hT.brings [0]).tail, by first | omega | (dsimp only; omega)⟩
      · -- else
        have hl30 : s.L.length ≤ 30 := by omega
        refine wpIn_exit ?_
        refine then_exit ?_
        refine then_exit ?_
        refine inBlock_hit ?_
        refine wpIn_seq ?_
        -- region 10 (outright.go:127)
        refine wp_reg ([]) ([_, _, _, _, _] ++ rs) [(0, true)] mixed (by kernel_rfl) (hT) ?_; intro w hT
        refine rd hf rfl (yl_assign rfl) rfl rfl ?_; intro a hf
        refine plan_nil ?_
        replace hf := hf.sel [10, 7, 2] (l' := [(10, _), (7, _), (2, _)]) rfl
        refine wpIn_seq ?_
        refine wpIn_seq ?_
        -- region 11 (outright.go:128)
        refine wp_reg ([]) ([_, _, _, _, _] ++ rs) [(0, true)] mixed (by kernel_rfl) (hT) ?_; intro w hT
        refine rd hf rfl (yl_assign rfl) rfl rfl ?_; intro a hf
        refine plan_nil ?_
        refine wpIn_block ?_
        clear hli hi
        replace hT := hT.bring 4
        replace hT := hT.bring 4
        replace hT := hT.bring 4
        replace hT := hT.bring 4
        replace hT := hT.bring 4
        refine wp_loopS (σ := Nat × BS × Int) (fun (i, s, t) => [(11, .int .i64 (i : Nat)), (10, .int .i64 t)]) [(7, _), (2, _)] (fun (i, s, t) L => (Inv s ∧ s.L.length ≤ 30 ∧ s.time = t ∧ 0 ≤ t ∧ t ≤ 255 * i) ∧ i ≤ trs.length ∧ ∃ y0 y1 y2 y3 y4, BufR b s [y0, y1, y2, y3, y4] ∧ L = [y0, y1, y2, y3, y4]) (fun (i, s, t) => trs.length - i) (0, s, 0) (L := [_, _, _, _, _]) (R := [] ++ rs) (hf.sel [11, 10, 7, 2] rfl) (⟨⟨hI, hl30, hti, Int.le_refl _, by omega⟩, Nat.zero_le _, _, _, _, _, _, hB, rfl⟩) hT ?_
        clear hf hT; rintro ⟨i, s, t⟩ a w L hf ⟨⟨hI, hli, hti, ht0, ht1⟩, hi, y0, y1, y2, y3, y4, hB, rfl⟩ hT
        replace hf : Fr _ [(11, .int .i64 (i : Nat)), (10, .int .i64 t), (7, _), (2, _)] _ _ := hf
        refine wpIn_seq ?_
        refine wpIn_seq ?_
        -- region 12 (outright.go:128)
        refine wp_reg ([]) ([_, _, _, _, _] ++ rs) [(0, true), (1, true), (2, true), (3, true)] mixed (by kernel_rfl) (hT) ?_; intro w hT
        refine rd hf rfl (yl_move rfl) rfl rfl ?_; intro a hf
        refine rd hf rfl (yl_move rfl) rfl rfl ?_; intro a hf
        refine rd hf rfl (yl_lenE rfl Try.underlying49 hE2.app) rfl rfl ?_; intro a hf
        refine rd hf rfl (yl_cmp rfl rfl rfl) rfl rfl ?_; intro a hf
        refine plan_nil ?_
        replace hf := hf.sel [62, 11, 10, 7, 2] (l' := [(62, _), (11, _), (10, _), (7, _), (2, _)]) rfl
        refine wp_ifd hf rfl (fun hlt => ?_) (fun hlt => ?_)
        · -- then
          have hlt' : i < trs.length := by omega
          have hj : trs[i]? = some trs[i] := List.getElem?_eq_getElem hlt'
          have hxo := hTr trs[i] (List.getElem_mem hlt')
          generalize trs[i] = x at hj hxo
          obtain ⟨hxa, hxb, hxc⟩ := hxo
          have hlb : (bst s (4 * x.a) (t + x.b) x.c).L.length = s.L.length := by have := congrArg List.length (ids_setSent s.L (bfold (4 * x.a) (s.L.filter (due (t + x.b) x.c))).2 (t + x.b)); simpa [ids, bst] using this
          have hnoor : ¬ Oor s (4 * x.a) (t + x.b) x.c := by unfold Oor; omega
          refine wpIn_skip ?_
          refine wpIn_seq ?_
          refine wpIn_block ?_
          refine wpIn_seq ?_
          -- region 14 (outright.go:129)
          refine wp_reg ([]) ([_, _, _, _, _] ++ rs) [(0, true), (1, true), (2, true), (3, true), (4, true), (5, true), (6, true), (7, true), (8, true), (9, true), (10, true), (11, true), (12, true), (13, true), (14, true)] mixed (by kernel_rfl) (hT) ?_; intro w hT
          refine rd hf rfl (yl_move rfl) rfl rfl ?_; intro a hf
          refine rd hf rfl (yl_move rfl) rfl rfl ?_; intro a hf
          refine rd hf rfl (yl_indexE rfl rfl Try.underlying49 sz_50 hE2.app (by omega) (by omega)) rfl rfl ?_; intro a hf
          refine rd hf rfl (yl_indexArr (k := offs v2 + ((i : Nat) : Int).toNat * encTri.sz + 0) rfl rfl Try.underlying50 sz_5 (by decide) (by decide) (by rfl)) rfl rfl ?_; intro a hf
          refine rd hf rfl (yl_load Try.underlying5 rfl rfl (hE2.app.cell hj (f := 0) rfl)) rfl rfl ?_; intro a hf
          refine rd hf rfl (yl_conv64 rfl Try.underlying5 Try.underlying2 (by unfold inI64; omega)) rfl rfl ?_; intro a hf
          refine rd hf rfl (yl_mul rfl rfl (by unfold inI64; omega)) rfl rfl ?_; intro a hf
          refine rd hf rfl (yl_move rfl) rfl rfl ?_; intro a hf
          refine rd hf rfl (yl_move rfl) rfl rfl ?_; intro a hf
          refine rd hf rfl (yl_indexE rfl rfl Try.underlying49 sz_50 hE2.app (by omega) (by omega)) rfl rfl ?_; intro a hf
          refine rd hf rfl (yl_indexArr (k := offs v2 + ((i : Nat) : Int).toNat * encTri.sz + 2) rfl rfl Try.underlying50 sz_5 (by decide) (by decide) (by rfl)) rfl rfl ?_; intro a hf
          refine rd hf rfl (yl_load Try.underlying5 rfl rfl (hE2.app.cell hj (f := 2) rfl)) rfl rfl ?_; intro a hf
          refine rd hf rfl (yl_conv64 rfl Try.underlying5 Try.underlying2 (by unfold inI64; omega)) rfl rfl ?_; intro a hf
          refine rd hf rfl (yl_assign rfl) rfl rfl ?_; intro a hf
          refine rd hf rfl (yl_assign rfl) rfl rfl ?_; intro a hf
          refine plan_nil ?_
          replace hf := hf.sel [13, 12, 11, 10, 7, 2] (l' := [(13, _), (12, _), (11, _), (10, _), (7, _), (2, _)]) rfl
          refine wpIn_seq ?_
          -- region 15 (outright.go:130)
          refine wp_reg ([]) ([_, _, _, _, _] ++ rs) [(0, true), (1, true), (2, true), (3, true), (4, true), (5, true), (6, true), (7, true), (8, true)] mixed (by kernel_rfl) (hT) ?_; intro w hT
          refine rd hf rfl (yl_move rfl) rfl rfl ?_; intro a hf
          refine rd hf rfl (yl_move rfl) rfl rfl ?_; intro a hf
          refine rd hf rfl (yl_move rfl) rfl rfl ?_; intro a hf
          refine rd hf rfl (yl_indexE rfl rfl Try.underlying49 sz_50 hE2.app (by omega) (by omega)) rfl rfl ?_; intro a hf
          refine rd hf rfl (yl_indexArr (k := offs v2 + ((i : Nat) : Int).toNat * encTri.sz + 1) rfl rfl Try.underlying50 sz_5 (by decide) (by decide) (by rfl)) rfl rfl ?_; intro a hf
          refine rd hf rfl (yl_load Try.underlying5 rfl rfl (hE2.app.cell hj (f := 1) rfl)) rfl rfl ?_; intro a hf
          refine rd hf rfl (yl_conv64 rfl Try.underlying5 Try.underlying2 (by unfold inI64; omega)) rfl rfl ?_; intro a hf
          refine rd hf rfl (yl_add rfl rfl (by unfold inI64; omega)) rfl rfl ?_; intro a hf
          refine rw_ hf rfl (yl_assign rfl) rfl (l' := [(10, _), (85, _), (84, _), (83, _), (82, _), (81, _), (80, _), (79, _), (78, _), (13, _), (12, _), (11, _), (7, _), (2, _)]) rfl ?_; intro a hf
          refine plan_nil ?_
          replace hf := hf.sel [10, 13, 12, 11, 7, 2] (l' := [(10, _), (13, _), (12, _), (11, _), (7, _), (2, _)]) rfl
          refine wpIn_seq ?_
          -- region 16 (outright.go:131)
          refine wp_reg ([]) ([_, _, _, _, _] ++ rs) [(0, true), (1, false), (2, true)] mixed (by kernel_rfl) (hT) ?_; intro w hT
          refine rd hf rfl (yl_move rfl) rfl rfl ?_; intro a hf
          refine ef_call hf rfl (wanted_none _ _ rfl) rfl rfl (by kernel_rfl) (Spec.frame (L2 := []) (Held_spec b s (hB.inn (fun x hx => by rcases mem5 hx with rfl | rfl | rfl | rfl | rfl; exact .head _; exact .tail _ (.head _); exact .tail _ (.tail _ (.head _)); exact .tail _ (.tail _ (.tail _ (.head _))); exact .tail _ (.tail _ (.tail _ (.tail _ (.head _)))))) hI.nd (by omega) hT)) rfl (l' := [(86, _), (10, _), (13, _), (12, _), (11, _), (7, _), (2, _)]) rfl ?_; rintro a w bef L ⟨L1, ⟨XH1, hH1, rfl⟩, rfl⟩ hf hT
          refine rd hf rfl (yl_assign rfl) rfl rfl ?_; intro a hf
          refine plan_nil ?_
          refine wpIn_seq ?_
          -- region 17 (outright.go:132)
          refine wp_reg ([_, _, _, _, _]) ([_] ++ rs) [(0, true), (1, true), (2, true), (3, true), (4, false), (5, true), (6, true), (7, true), (8, true), (9, true)] mixed (by kernel_rfl) (hT.brings [5, 5, 5, 5, 5]) ?_; intro w hT
          refine rd hf rfl (yl_move rfl) rfl rfl ?_; intro a hf
          refine rd hf rfl (yl_move rfl) rfl rfl ?_; intro a hf
          refine rd hf rfl (yl_move rfl) rfl rfl ?_; intro a hf
          refine rd hf rfl (yl_move rfl) rfl rfl ?_; intro a hf
          replace hT : Tot _ _ ([_, _, _, _, _] ++ ([_] ++ rs)) := hT.bring 4
          replace hT : Tot _ _ ([_, _, _, _, _] ++ ([_] ++ rs)) := hT.bring 4
          replace hT : Tot _ _ ([_, _, _, _, _] ++ ([_] ++ rs)) := hT.bring 4
          replace hT : Tot _ _ ([_, _, _, _, _] ++ ([_] ++ rs)) := hT.bring 4
          replace hT : Tot _ _ ([_, _, _, _, _] ++ ([_] ++ rs)) := hT.bring 4
          refine ef_call hf rfl (wanted_none _ _ rfl) rfl rfl (by kernel_rfl) (Spec.frame (L2 := []) (Burst5_spec b s _ hB hI (by omega) (by omega) (4 * x.a) (t + x.b) x.c hT)) rfl (l' := [(92, _), (91, _), (90, _), (89, _), (14, _), (87, _), (86, _), (10, _), (13, _), (12, _), (11, _), (7, _), (2, _)]) rfl ?_; rintro a w v L ⟨L1, ⟨s', d, er, q, XQ, Lq, rfl, hD, hBq, rfl, hR⟩, rfl⟩ hf hT
          obtain ⟨-, rfl, rfl, hd⟩ := hR.resolve_left (fun h => hnoor h.1)
          obtain ⟨z0, z1, z2, z3, z4, rfl⟩ := hBq.five
          refine rd hf rfl (yl_move rfl) rfl rfl ?_; intro a hf
          refine rd hf rfl (yl_extract rfl rfl) rfl rfl ?_; intro a hf
          refine rd hf rfl (yl_extract rfl rfl) rfl rfl ?_; intro a hf
          refine rd hf rfl (yl_assign rfl) rfl rfl ?_; intro a hf
          refine rd hf rfl (yl_assign rfl) rfl rfl ?_; intro a hf
          refine plan_nil ?_
          replace hf := hf.sel [16, 15, 14, 10, 13, 12, 11, 7, 2] (l' := [(16, _), (15, _), (14, _), (10, _), (13, _), (12, _), (11, _), (7, _), (2, _)]) rfl
          refine wpIn_seq ?_
          -- region 18 (outright.go:133)
          refine wp_reg ([]) ([_, _, _, _, _, _, _] ++ rs) [(0, true), (1, false), (2, true)] mixed (by kernel_rfl) (hT) ?_; intro w hT
          refine rd hf rfl (yl_move rfl) rfl rfl ?_; intro a hf
          refine ef_call hf rfl (wanted_none _ _ rfl) rfl rfl (by kernel_rfl) (Spec.frame (L2 := []) (Held_spec b (bst s (4 * x.a) (t + x.b) x.c) (hBq.inn (fun x hx => by rcases mem5 hx with rfl | rfl | rfl | rfl | rfl; exact .tail _ (.head _); exact .tail _ (.tail _ (.head _)); exact .tail _ (.tail _ (.tail _ (.head _))); exact .tail _ (.tail _ (.tail _ (.tail _ (.head _)))); exact .tail _ (.tail _ (.tail _ (.tail _ (.tail _ (.head _))))))) (hI.bst _ _ _).nd (by rw [hlb]; omega) hT)) rfl (l' := [(96, _), (16, _), (15, _), (14, _), (10, _), (13, _), (12, _), (11, _), (7, _), (2, _)]) rfl ?_; rintro a w now L ⟨L1, ⟨XH2, hH2, rfl⟩, rfl⟩ hf hT
          refine rd hf rfl (yl_assign rfl) rfl rfl ?_; intro a hf
          refine plan_nil ?_
          refine wpIn_seq ?_
          refine wpIn_seq ?_
          -- region 19 (outright.go:134)
          refine wp_reg ([]) ([_, _, _, _, _, _, _, _] ++ rs) [(0, true), (1, true), (2, true), (3, true), (4, true), (5, true), (6, true), (7, true), (8, true)] mixed (by kernel_rfl) (hT) ?_; intro w hT
          refine rd hf rfl (yl_move rfl) rfl rfl ?_; intro a hf
          refine rd hf rfl (yl_cmp rfl rfl rfl) rfl rfl ?_; intro a hf
          refine rd hf rfl (yl_move rfl) rfl rfl ?_; intro a hf
          refine rdT hf rfl rfl rfl rfl (rfl) (yl_move rfl) rfl (l' := [(101, _), (100, _), (99, _), (98, _), (17, _), (97, _), (96, _), (16, _), (15, _), (14, _), (10, _), (13, _), (12, _), (11, _), (7, _), (2, _)]) rfl ?_; intro a hf
          refine rdT hf rfl rfl rfl rfl (rfl) (yl_lenE rfl Try.underlying35 (hH1.els (.tail _ (.tail _ (.tail _ (.tail _ (.tail _ (.tail _ (.tail _ (.head _)))))))))) rfl (l' := [(102, _), (101, _), (100, _), (99, _), (98, _), (17, _), (97, _), (96, _), (16, _), (15, _), (14, _), (10, _), (13, _), (12, _), (11, _), (7, _), (2, _)]) rfl ?_; intro a hf
          refine rdT hf rfl rfl rfl rfl (rfl) (yl_move rfl) rfl (l' := [(103, _), (102, _), (101, _), (100, _), (99, _), (98, _), (17, _), (97, _), (96, _), (16, _), (15, _), (14, _), (10, _), (13, _), (12, _), (11, _), (7, _), (2, _)]) rfl ?_; intro a hf
          refine rdT hf rfl rfl rfl rfl (rfl) (yl_lenE rfl Try.underlying35 (hH2.els (.head _))) rfl (l' := [(104, _), (103, _), (102, _), (101, _), (100, _), (99, _), (98, _), (17, _), (97, _), (96, _), (16, _), (15, _), (14, _), (10, _), (13, _), (12, _), (11, _), (7, _), (2, _)]) rfl ?_; intro a hf
          refine rdT hf rfl rfl rfl rfl (rfl) (yl_cmp rfl rfl rfl) rfl (l' := [(105, _), (104, _), (103, _), (102, _), (101, _), (100, _), (99, _), (98, _), (17, _), (97, _), (96, _), (16, _), (15, _), (14, _), (10, _), (13, _), (12, _), (11, _), (7, _), (2, _)]) rfl ?_; intro a hf
          refine rd hf rfl (yl_pickFF rfl rfl rfl) rfl rfl ?_; intro a hf
          refine plan_nil ?_
          replace hf := hf.sel [106, 17, 15, 14, 10, 13, 12, 11, 7, 2] (l' := [(106, _), (17, _), (15, _), (14, _), (10, _), (13, _), (12, _), (11, _), (7, _), (2, _)]) rfl
          refine wp_ifd hf rfl (fun hl0 => ?_) (fun hl0 => ?_)
          · -- then
            exact absurd hl0 (by omega)
          · -- else
            refine wpIn_skip ?_
            refine wpIn_seq ?_
            -- region 21 (outright.go:137)
            refine wp_reg ([]) ([_, _, _, _, _, _, _, _] ++ rs) [(0, true)] mixed (by kernel_rfl) (hT) ?_; intro w hT
            refine rd hf rfl (yl_assign rfl) rfl rfl ?_; intro a hf
            refine plan_nil ?_
            refine wpIn_seq ?_
            refine wpIn_seq ?_
            -- region 22 (outright.go:138)
            refine wp_reg ([]) ([_, _, _, _, _, _, _, _] ++ rs) [(0, true)] mixed (by kernel_rfl) (hT) ?_; intro w hT
            refine rd hf rfl (yl_assign rfl) rfl rfl ?_; intro a hf
            refine plan_nil ?_
            refine wpIn_block ?_
            have hdl := (hD.els (R := [_]) (.head _)).len_le
            refine wp_loopS (σ := Nat) (fun k => [(18, .int .i64 ((bf (4 * x.a) (t + x.b) x.c (s.L.take k)).2.length : Nat)), (19, .int .i64 (k : Nat)), (12, .int .i64 (bf (4 * x.a) (t + x.b) x.c (s.L.take k)).1)]) [(17, _), (15, _), (14, _), (10, _), (13, _), (11, _), (7, _), (2, _)] (fun k L => L = [] ∧ k ≤ s.L.length) (fun k => s.L.length - k) 0 (L := []) (R := [_, _, _, _, _, _, _, _] ++ rs) (hf.sel [18, 19, 12, 17, 15, 14, 10, 13, 11, 7, 2] rfl) (⟨rfl, Nat.zero_le _⟩) hT ?_
            clear hf hT; rintro k a w L hf ⟨rfl, hk⟩ hT
            replace hf : Fr _ [(18, .int .i64 ((bf (4 * x.a) (t + x.b) x.c (s.L.take k)).2.length : Nat)), (19, .int .i64 (k : Nat)), (12, .int .i64 (bf (4 * x.a) (t + x.b) x.c (s.L.take k)).1), (17, _), (15, _), (14, _), (10, _), (13, _), (11, _), (7, _), (2, _)] _ _ := hf
            refine wpIn_seq ?_
            refine wpIn_seq ?_
            -- region 23 (outright.go:138)
            refine wp_reg ([]) ([_, _, _, _, _, _, _, _] ++ rs) [(0, true), (1, true), (2, true), (3, true)] mixed (by kernel_rfl) (hT) ?_; intro w hT
            refine rd hf rfl (yl_move rfl) rfl rfl ?_; intro a hf
            refine rd hf rfl (yl_move rfl) rfl rfl ?_; intro a hf
            refine rd hf rfl (yl_lenE rfl Try.underlying35 (hH1.els (.tail _ (.tail _ (.tail _ (.tail _ (.tail _ (.tail _ (.tail _ (.head _)))))))))) rfl rfl ?_; intro a hf
            refine rd hf rfl (yl_cmp rfl rfl rfl) rfl rfl ?_; intro a hf
            refine plan_nil ?_
            replace hf := hf.sel [110, 18, 19, 12, 17, 15, 14, 10, 13, 11, 7, 2] (l' := [(110, _), (18, _), (19, _), (12, _), (17, _), (15, _), (14, _), (10, _), (13, _), (11, _), (7, _), (2, _)]) rfl
            refine wp_ifd hf rfl (fun hkl => ?_) (fun hkl => ?_)
            · -- then
              have hltk : k < s.L.length := by omega
              have hltk2 : k < (bst s (4 * x.a) (t + x.b) x.c).L.length := by omega
              have hj : s.L[k]? = some s.L[k] := List.getElem?_eq_getElem hltk
              have hjn : (bst s (4 * x.a) (t + x.b) x.c).L[k]? = some (bst s (4 * x.a) (t + x.b) x.c).L[k] := List.getElem?_eq_getElem hltk2
              have hho := hI.ok _ (List.getElem_mem hltk)
              have hbr := bytes_rng hho
              have hrg : 0 ≤ (bf (4 * x.a) (t + x.b) x.c (s.L.take k)).1 ∧ (bf (4 * x.a) (t + x.b) x.c (s.L.take k)).1 ≤ 4 * x.a := bfold_rng (4 * x.a) (by omega) ((s.L.take k).filter (due (t + x.b) x.c)) (fun h hh => hI.ok h (List.mem_of_mem_take (List.mem_filter.1 hh).1))
              have hfl : (bf (4 * x.a) (t + x.b) x.c (s.L.take k)).2.length ≤ ((s.L.take k).filter (due (t + x.b) x.c)).length := bfold_len (4 * x.a) ((s.L.take k).filter (due (t + x.b) x.c))
              have hfl2 : ((s.L.take k).filter (due (t + x.b) x.c)).length ≤ 30 := Nat.le_trans (List.length_filter_le _ _) (by rw [List.length_take]; omega)
              have hsuc := bf_succ (n := 4 * x.a) (t := t + x.b) (wt := x.c) hltk
              have hisf := bf_is (n := 4 * x.a) (t := t + x.b) (wt := x.c) hI.nd hltk
              have hism := bf_mem (n := 4 * x.a) (t := t + x.b) (wt := x.c) hI.nd hltk
              have hbg := bst_get (n := 4 * x.a) (t := t + x.b) (wt := x.c) hI.nd hltk hltk2
              rw [← hd] at hisf hism hbg
              refine wpIn_skip ?_
              refine wpIn_seq ?_
              refine wpIn_block ?_
              refine wpIn_seq ?_
              -- region 25 (outright.go:139)
              refine wp_reg ([]) ([_, _, _, _, _, _, _, _] ++ rs) [(0, true), (1, true), (2, true), (3, true), (4, false), (5, false)] mixed (by kernel_rfl) (hT) ?_; intro w hT
              refine rd hf rfl (yl_move rfl) rfl rfl ?_; intro a hf
              refine rd hf rfl (yl_move rfl) rfl rfl ?_; intro a hf
              refine rd hf rfl (yl_indexE rfl rfl Try.underlying35 sz_44 (hH1.els (.tail _ (.tail _ (.tail _ (.tail _ (.tail _ (.tail _ (.tail _ (.head _))))))))) (by omega) (by omega)) rfl rfl ?_; intro a hf
              refine rd hf rfl (yl_loadA Try.underlying44 rfl sz_44 rfl ((hH1.els (.tail _ (.tail _ (.tail _ (.tail _ (.tail _ (.tail _ (.tail _ (.head _))))))))).row hj) rfl) rfl rfl ?_; intro a hf
              refine ef hf hT rfl rfl (ef_alloc zr_44) rfl (l' := [(116, _), (115, _), (114, _), (113, _), (110, _), (18, _), (19, _), (12, _), (17, _), (15, _), (14, _), (10, _), (13, _), (11, _), (7, _), (2, _)]) rfl ?_; rintro a w v L ⟨b1, rfl, rfl⟩ hf hT
              refine efS hf hT rfl rfl (ef_storeW rfl rfl sz_44 rfl rfl rfl) ?_; rintro w L rfl hT
              refine plan_nil ?_
              replace hf := hf.sel [20, 18, 19, 12, 17, 15, 14, 10, 13, 11, 7, 2] (l' := [(20, _), (18, _), (19, _), (12, _), (17, _), (15, _), (14, _), (10, _), (13, _), (11, _), (7, _), (2, _)]) rfl
              refine wpIn_seq ?_
              -- region 26: its branches meet again
              have hf0 := hf.sel [20, 18, 19, 12, 17, 15, 14, 10, 13, 11, 7, 2] (l' := [(20, _), (18, _), (19, _), (12, _), (17, _), (15, _), (14, _), (10, _), (13, _), (11, _), (7, _), (2, _)]) rfl
              refine wp_join hf0 hT 21 (.bool (due (t + x.b) x.c s.L[k])) ?_ ?_
              · clear hf0
                -- region 26 (outright.go:140)
                refine wp_reg ([]) ([_, _, _, _, _, _, _, _, _] ++ rs) [(0, true), (1, true), (2, true), (3, true), (4, true), (5, true), (6, true), (7, true), (8, true), (9, true), (10, true), (11, true)] mixed (by kernel_rfl) (hT) ?_; intro w hT
                refine rd hf rfl (yl_faddr Try.underlying44 rfl rfl sz_2 (k := 6) rfl) rfl rfl ?_; intro a hf
                refine rd hf rfl (yl_load Try.underlying2 rfl rfl ⟨_, .head _, _, _, _, pt_self _ _, rfl⟩) rfl rfl ?_; intro a hf
                refine rd hf rfl (yl_cmp rfl rfl rfl) rfl rfl ?_; intro a hf
                refine rd hf rfl (yl_move rfl) rfl rfl ?_; intro a hf
                by_cases hg3 : s.L[k].sent = -1
                · have hgT2 : decide (s.L[k].sent = -1) = true := by simpa using hg3
                  refine rdF hf rfl rfl rfl rfl (by first | exact hgT2 | simp [hgT2]) rfl (l' := [(121, _), (120, _), (119, _), (118, _), (117, _), (20, _), (18, _), (19, _), (12, _), (17, _), (15, _), (14, _), (10, _), (13, _), (11, _), (7, _), (2, _)]) rfl ?_; intro a hf
                  refine rdF hf rfl rfl rfl rfl (by first | exact hgT2 | simp [hgT2]) rfl (l' := [(122, _), (121, _), (120, _), (119, _), (118, _), (117, _), (20, _), (18, _), (19, _), (12, _), (17, _), (15, _), (14, _), (10, _), (13, _), (11, _), (7, _), (2, _)]) rfl ?_; intro a hf
                  refine rdF hf rfl rfl rfl rfl (by first | exact hgT2 | simp [hgT2]) rfl (l' := [(123, _), (122, _), (121, _), (120, _), (119, _), (118, _), (117, _), (20, _), (18, _), (19, _), (12, _), (17, _), (15, _), (14, _), (10, _), (13, _), (11, _), (7, _), (2, _)]) rfl ?_; intro a hf
                  refine rdF hf rfl rfl rfl rfl (by first | exact hgT2 | simp [hgT2]) rfl (l' := [(124, _), (123, _), (122, _), (121, _), (120, _), (119, _), (118, _), (117, _), (20, _), (18, _), (19, _), (12, _), (17, _), (15, _), (14, _), (10, _), (13, _), (11, _), (7, _), (2, _)]) rfl ?_; intro a hf
                  refine rdF hf rfl rfl rfl rfl (by first | exact hgT2 | simp [hgT2]) rfl (l' := [(125, _), (124, _), (123, _), (122, _), (121, _), (120, _), (119, _), (118, _), (117, _), (20, _), (18, _), (19, _), (12, _), (17, _), (15, _), (14, _), (10, _), (13, _), (11, _), (7, _), (2, _)]) rfl ?_; intro a hf
                  refine rdF hf rfl rfl rfl rfl (by first | exact hgT2 | simp [hgT2]) rfl (l' := [(126, _), (125, _), (124, _), (123, _), (122, _), (121, _), (120, _), (119, _), (118, _), (117, _), (20, _), (18, _), (19, _), (12, _), (17, _), (15, _), (14, _), (10, _), (13, _), (11, _), (7, _), (2, _)]) rfl ?_; intro a hf
                  refine rd hf rfl (yl_pickTT rfl hgT2 rfl) rfl rfl ?_; intro a hf
                  refine rd hf rfl (yl_assign rfl) rfl rfl ?_; intro a hf
                  refine plan_nil ?_
                  exact ⟨(hf.sel [21, 20, 18, 19, 12, 17, 15, 14, 10, 13, 11, 7, 2] (l' := [(21, _), (20, _), (18, _), (19, _), (12, _), (17, _), (15, _), (14, _), (10, _), (13, _), (11, _), (7, _), (2, _)]) rfl).fix (by simp [due, hg3]), hT⟩
                · have hgT2 : decide (s.L[k].sent = -1) = false := by simpa using hg3
                  refine rdT hf rfl rfl rfl rfl (by first | exact hgT2 | simp [hgT2]) (yl_faddr Try.underlying44 rfl rfl sz_2 (k := 6) rfl) rfl (l' := [(121, _), (120, _), (119, _), (118, _), (117, _), (20, _), (18, _), (19, _), (12, _), (17, _), (15, _), (14, _), (10, _), (13, _), (11, _), (7, _), (2, _)]) rfl ?_; intro a hf
                  refine rdT hf rfl rfl rfl rfl (by first | exact hgT2 | simp [hgT2]) (yl_load Try.underlying2 rfl rfl ⟨_, .head _, _, _, _, pt_self _ _, rfl⟩) rfl (l' := [(122, _), (121, _), (120, _), (119, _), (118, _), (117, _), (20, _), (18, _), (19, _), (12, _), (17, _), (15, _), (14, _), (10, _), (13, _), (11, _), (7, _), (2, _)]) rfl ?_; intro a hf
                  refine rdT hf rfl rfl rfl rfl (by first | exact hgT2 | simp [hgT2]) (yl_move rfl) rfl (l' := [(123, _), (122, _), (121, _), (120, _), (119, _), (118, _), (117, _), (20, _), (18, _), (19, _), (12, _), (17, _), (15, _), (14, _), (10, _), (13, _), (11, _), (7, _), (2, _)]) rfl ?_; intro a hf
                  refine rdT hf rfl rfl rfl rfl (by first | exact hgT2 | simp [hgT2]) (yl_move rfl) rfl (l' := [(124, _), (123, _), (122, _), (121, _), (120, _), (119, _), (118, _), (117, _), (20, _), (18, _), (19, _), (12, _), (17, _), (15, _), (14, _), (10, _), (13, _), (11, _), (7, _), (2, _)]) rfl ?_; intro a hf
                  refine rdT hf rfl rfl rfl rfl (by first | exact hgT2 | simp [hgT2]) (yl_sub rfl rfl (by unfold inI64; omega)) rfl (l' := [(125, _), (124, _), (123, _), (122, _), (121, _), (120, _), (119, _), (118, _), (117, _), (20, _), (18, _), (19, _), (12, _), (17, _), (15, _), (14, _), (10, _), (13, _), (11, _), (7, _), (2, _)]) rfl ?_; intro a hf
                  refine rdT hf rfl rfl rfl rfl (by first | exact hgT2 | simp [hgT2]) (yl_cmp rfl rfl rfl) rfl (l' := [(126, _), (125, _), (124, _), (123, _), (122, _), (121, _), (120, _), (119, _), (118, _), (117, _), (20, _), (18, _), (19, _), (12, _), (17, _), (15, _), (14, _), (10, _), (13, _), (11, _), (7, _), (2, _)]) rfl ?_; intro a hf
                  refine rd hf rfl (yl_pickFF rfl hgT2 rfl) rfl rfl ?_; intro a hf
                  refine rd hf rfl (yl_assign rfl) rfl rfl ?_; intro a hf
                  refine plan_nil ?_
                  exact ⟨(hf.sel [21, 20, 18, 19, 12, 17, 15, 14, 10, 13, 11, 7, 2] (l' := [(21, _), (20, _), (18, _), (19, _), (12, _), (17, _), (15, _), (14, _), (10, _), (13, _), (11, _), (7, _), (2, _)]) rfl).fix (by simp [due, hg3]), hT⟩
              · clear hf hf0 hT; intro a w hf hT
                refine wpIn_seq ?_
                -- region 27: its branches meet again
                have hf0 := hf.sel [21, 20, 18, 19, 12, 17, 15, 14, 10, 13, 11, 7, 2] (l' := [(21, _), (20, _), (18, _), (19, _), (12, _), (17, _), (15, _), (14, _), (10, _), (13, _), (11, _), (7, _), (2, _)]) rfl
                refine wp_join hf0 hT 22 (.bool (decide (d[(bf (4 * x.a) (t + x.b) x.c (s.L.take k)).2.length]? = some s.L[k].r.id))) ?_ ?_
                · clear hf0
                  -- region 27 (outright.go:141)
                  refine wp_reg ([]) ([_, _, _, _, _, _, _, _, _] ++ rs) [(0, true), (1, true), (2, true), (3, true), (4, true), (5, true), (6, true), (7, true), (8, true), (9, true), (10, true), (11, true), (12, true), (13, true), (14, true)] mixed (by kernel_rfl) (hT) ?_; intro w hT
                  refine rd hf rfl (yl_move rfl) rfl rfl ?_; intro a hf
                  refine rd hf rfl (yl_move rfl) rfl rfl ?_; intro a hf
                  refine rd hf rfl (yl_lenE rfl Try.underlying37 (hD.els (.tail _ (.tail _ (.head _))))) rfl rfl ?_; intro a hf
                  refine rd hf rfl (yl_cmp rfl rfl rfl) rfl rfl ?_; intro a hf
                  refine rd hf rfl (yl_move rfl) rfl rfl ?_; intro a hf
                  by_cases hg4 : (((bf (4 * x.a) (t + x.b) x.c (s.L.take k)).2.length : Nat) : Int) < (d.length : Nat)
                  · have hgT3 : decide ((((bf (4 * x.a) (t + x.b) x.c (s.L.take k)).2.length : Nat) : Int) < (d.length : Nat)) = true := by simpa using hg4
                    have hat : (bf (4 * x.a) (t + x.b) x.c (s.L.take k)).2.length < d.length := by omega
                    have hja : d[(((bf (4 * x.a) (t + x.b) x.c (s.L.take k)).2.length : Nat) : Int).toNat]? = some d[(bf (4 * x.a) (t + x.b) x.c (s.L.take k)).2.length] := by rw [Int.toNat_natCast]; exact List.getElem?_eq_getElem _
                    refine rdT hf rfl rfl rfl rfl (by first | exact hgT3 | simp [hgT3]) (yl_move rfl) rfl (l' := [(133, _), (132, _), (131, _), (130, _), (129, _), (128, _), (21, _), (20, _), (18, _), (19, _), (12, _), (17, _), (15, _), (14, _), (10, _), (13, _), (11, _), (7, _), (2, _)]) rfl ?_; intro a hf
                    refine rdT hf rfl rfl rfl rfl (by first | exact hgT3 | simp [hgT3]) (yl_move rfl) rfl (l' := [(134, _), (133, _), (132, _), (131, _), (130, _), (129, _), (128, _), (21, _), (20, _), (18, _), (19, _), (12, _), (17, _), (15, _), (14, _), (10, _), (13, _), (11, _), (7, _), (2, _)]) rfl ?_; intro a hf
                    refine rdT hf rfl rfl rfl rfl (by first | exact hgT3 | simp [hgT3]) (yl_indexE rfl rfl Try.underlying37 sz_2 (hD.els (.tail _ (.tail _ (.head _)))) (by omega) (by omega)) rfl (l' := [(135, _), (134, _), (133, _), (132, _), (131, _), (130, _), (129, _), (128, _), (21, _), (20, _), (18, _), (19, _), (12, _), (17, _), (15, _), (14, _), (10, _), (13, _), (11, _), (7, _), (2, _)]) rfl ?_; intro a hf
                    refine rdT hf rfl rfl rfl rfl (by first | exact hgT3 | simp [hgT3]) (yl_load Try.underlying2 rfl rfl ((hD.els (.tail _ (.tail _ (.head _)))).cell hja (f := 0) rfl)) rfl (l' := [(136, _), (135, _), (134, _), (133, _), (132, _), (131, _), (130, _), (129, _), (128, _), (21, _), (20, _), (18, _), (19, _), (12, _), (17, _), (15, _), (14, _), (10, _), (13, _), (11, _), (7, _), (2, _)]) rfl ?_; intro a hf
                    refine rdT hf rfl rfl rfl rfl (by first | exact hgT3 | simp [hgT3]) (yl_faddr Try.underlying44 rfl rfl sz_31 (k := 0) rfl) rfl (l' := [(137, _), (136, _), (135, _), (134, _), (133, _), (132, _), (131, _), (130, _), (129, _), (128, _), (21, _), (20, _), (18, _), (19, _), (12, _), (17, _), (15, _), (14, _), (10, _), (13, _), (11, _), (7, _), (2, _)]) rfl ?_; intro a hf
                    refine rdT hf rfl rfl rfl rfl (by first | exact hgT3 | simp [hgT3]) (yl_faddr Try.underlying31 rfl rfl sz_2 (k := 0) rfl) rfl (l' := [(138, _), (137, _), (136, _), (135, _), (134, _), (133, _), (132, _), (131, _), (130, _), (129, _), (128, _), (21, _), (20, _), (18, _), (19, _), (12, _), (17, _), (15, _), (14, _), (10, _), (13, _), (11, _), (7, _), (2, _)]) rfl ?_; intro a hf
                    refine rdT hf rfl rfl rfl rfl (by first | exact hgT3 | simp [hgT3]) (yl_load Try.underlying2 rfl rfl ⟨_, .head _, _, _, _, pt_self _ _, rfl⟩) rfl (l' := [(139, _), (138, _), (137, _), (136, _), (135, _), (134, _), (133, _), (132, _), (131, _), (130, _), (129, _), (128, _), (21, _), (20, _), (18, _), (19, _), (12, _), (17, _), (15, _), (14, _), (10, _), (13, _), (11, _), (7, _), (2, _)]) rfl ?_; intro a hf
                    refine rdT hf rfl rfl rfl rfl (by first | exact hgT3 | simp [hgT3]) (yl_cmp rfl rfl rfl) rfl (l' := [(140, _), (139, _), (138, _), (137, _), (136, _), (135, _), (134, _), (133, _), (132, _), (131, _), (130, _), (129, _), (128, _), (21, _), (20, _), (18, _), (19, _), (12, _), (17, _), (15, _), (14, _), (10, _), (13, _), (11, _), (7, _), (2, _)]) rfl ?_; intro a hf
                    refine rd hf rfl (yl_pickTT rfl hgT3 rfl) rfl rfl ?_; intro a hf
                    refine rd hf rfl (yl_assign rfl) rfl rfl ?_; intro a hf
                    refine plan_nil ?_
                    exact ⟨(hf.sel [22, 21, 20, 18, 19, 12, 17, 15, 14, 10, 13, 11, 7, 2] (l' := [(22, _), (21, _), (20, _), (18, _), (19, _), (12, _), (17, _), (15, _), (14, _), (10, _), (13, _), (11, _), (7, _), (2, _)]) rfl).fix (by simp [List.getElem?_eq_getElem hat]), hT⟩
                  · have hgT3 : decide ((((bf (4 * x.a) (t + x.b) x.c (s.L.take k)).2.length : Nat) : Int) < (d.length : Nat)) = false := by simpa using hg4
                    have hat : d.length ≤ (bf (4 * x.a) (t + x.b) x.c (s.L.take k)).2.length := by omega
                    refine rdF hf rfl rfl rfl rfl (by first | exact hgT3 | simp [hgT3]) rfl (l' := [(133, _), (132, _), (131, _), (130, _), (129, _), (128, _), (21, _), (20, _), (18, _), (19, _), (12, _), (17, _), (15, _), (14, _), (10, _), (13, _), (11, _), (7, _), (2, _)]) rfl ?_; intro a hf
                    refine rdF hf rfl rfl rfl rfl (by first | exact hgT3 | simp [hgT3]) rfl (l' := [(134, _), (133, _), (132, _), (131, _), (130, _), (129, _), (128, _), (21, _), (20, _), (18, _), (19, _), (12, _), (17, _), (15, _), (14, _), (10, _), (13, _), (11, _), (7, _), (2, _)]) rfl ?_; intro a hf
                    refine rdF hf rfl rfl rfl rfl (by first | exact hgT3 | simp [hgT3]) rfl (l' := [(135, _), (134, _), (133, _), (132, _), (131, _), (130, _), (129, _), (128, _), (21, _), (20, _), (18, _), (19, _), (12, _), (17, _), (15, _), (14, _), (10, _), (13, _), (11, _), (7, _), (2, _)]) rfl ?_; intro a hf
                    refine rdF hf rfl rfl rfl rfl (by first | exact hgT3 | simp [hgT3]) rfl (l' := [(136, _), (135, _), (134, _), (133, _), (132, _), (131, _), (130, _), (129, _), (128, _), (21, _), (20, _), (18, _), (19, _), (12, _), (17, _), (15, _), (14, _), (10, _), (13, _), (11, _), (7, _), (2, _)]) rfl ?_; intro a hf
                    refine rdF hf rfl rfl rfl rfl (by first | exact hgT3 | simp [hgT3]) rfl (l' := [(137, _), (136, _), (135, _), (134, _), (133, _), (132, _), (131, _), (130, _), (129, _), (128, _), (21, _), (20, _), (18, _), (19, _), (12, _), (17, _), (15, _), (14, _), (10, _), (13, _), (11, _), (7, _), (2, _)]) rfl ?_; intro a hf
                    refine rdF hf rfl rfl rfl rfl (by first | exact hgT3 | simp [hgT3]) rfl (l' := [(138, _), (137, _), (136, _), (135, _), (134, _), (133, _), (132, _), (131, _), (130, _), (129, _), (128, _), (21, _), (20, _), (18, _), (19, _), (12, _), (17, _), (15, _), (14, _), (10, _), (13, _), (11, _), (7, _), (2, _)]) rfl ?_; intro a hf
                    refine rdF hf rfl rfl rfl rfl (by first | exact hgT3 | simp [hgT3]) rfl (l' := [(139, _), (138, _), (137, _), (136, _), (135, _), (134, _), (133, _), (132, _), (131, _), (130, _), (129, _), (128, _), (21, _), (20, _), (18, _), (19, _), (12, _), (17, _), (15, _), (14, _), (10, _), (13, _), (11, _), (7, _), (2, _)]) rfl ?_; intro a hf
                    refine rdF hf rfl rfl rfl rfl (by first | exact hgT3 | simp [hgT3]) rfl (l' := [(140, _), (139, _), (138, _), (137, _), (136, _), (135, _), (134, _), (133, _), (132, _), (131, _), (130, _), (129, _), (128, _), (21, _), (20, _), (18, _), (19, _), (12, _), (17, _), (15, _), (14, _), (10, _), (13, _), (11, _), (7, _), (2, _)]) rfl ?_; intro a hf
                    refine rd hf rfl (yl_pickFF rfl hgT3 rfl) rfl rfl ?_; intro a hf
                    refine rd hf rfl (yl_assign rfl) rfl rfl ?_; intro a hf
                    refine plan_nil ?_
                    exact ⟨(hf.sel [22, 21, 20, 18, 19, 12, 17, 15, 14, 10, 13, 11, 7, 2] (l' := [(22, _), (21, _), (20, _), (18, _), (19, _), (12, _), (17, _), (15, _), (14, _), (10, _), (13, _), (11, _), (7, _), (2, _)]) rfl).fix (by simp [List.getElem?_eq_none hat]), hT⟩
                · clear hf hf0 hT; intro a w hf hT
                  refine wpIn_seq ?_
                  refine wpIn_seq ?_
                  -- region 28: its branches meet again
                  have hf0 := hf.sel [22, 20, 18, 19, 12, 17, 15, 14, 10, 13, 11, 7, 2] (l' := [(22, _), (20, _), (18, _), (19, _), (12, _), (17, _), (15, _), (14, _), (10, _), (13, _), (11, _), (7, _), (2, _)]) rfl
                  refine wp_join hf0 hT 150 (.bool false) ?_ ?_
                  · clear hf0
                    -- region 28 (outright.go:142)
                    refine wp_reg ([]) ([_, _, _, _, _, _, _, _, _] ++ rs) [(0, true), (1, true), (2, true), (3, true), (4, false), (5, true), (6, true), (7, true), (8, true)] mixed (by kernel_rfl) (hT) ?_; intro w hT
                    refine rd hf rfl (yl_move rfl) rfl rfl ?_; intro a hf
                    refine rd hf rfl (yl_move rfl) rfl rfl ?_; intro a hf
                    refine rd hf rfl (yl_move rfl) rfl rfl ?_; intro a hf
                    by_cases hg2 : due (t + x.b) x.c s.L[k] = true
                    · have hgT4 : due (t + x.b) x.c s.L[k] = true := by simpa using hg2
                      refine rdT hf rfl rfl rfl rfl (by first | exact hgT4 | simp [hgT4]) (yl_loadB Try.underlying44 rfl sz_44 (vs := s.L[k].cells) (.head _) rfl (pt_self _ _) rfl rfl) rfl (l' := [(145, _), (144, _), (143, _), (142, _), (22, _), (21, _), (20, _), (18, _), (19, _), (12, _), (17, _), (15, _), (14, _), (10, _), (13, _), (11, _), (7, _), (2, _)]) rfl ?_; intro a hf
                      refine ef_call hf rfl (by rw [wanted_some hf rfl rfl rfl rfl]; first | exact beqT hgT4 | simp [hgT4]) rfl rfl (by kernel_rfl) (Spec.frame (L2 := []) (lbytes_spec s.L[k] hT)) rfl (l' := [(145, _), (144, _), (143, _), (142, _), (22, _), (21, _), (20, _), (18, _), (19, _), (12, _), (17, _), (15, _), (14, _), (10, _), (13, _), (11, _), (7, _), (2, _)]) rfl ?_; rintro a w v L ⟨L1, ⟨rfl, rfl⟩, rfl⟩ hf hT
                      refine rdT hf rfl rfl rfl rfl (by first | exact hgT4 | simp [hgT4]) (yl_move rfl) rfl (l' := [(147, _), (146, _), (145, _), (144, _), (143, _), (142, _), (22, _), (21, _), (20, _), (18, _), (19, _), (12, _), (17, _), (15, _), (14, _), (10, _), (13, _), (11, _), (7, _), (2, _)]) rfl ?_; intro a hf
                      refine rdT hf rfl rfl rfl rfl (by first | exact hgT4 | simp [hgT4]) (yl_cmp rfl rfl rfl) rfl (l' := [(148, _), (147, _), (146, _), (145, _), (144, _), (143, _), (142, _), (22, _), (21, _), (20, _), (18, _), (19, _), (12, _), (17, _), (15, _), (14, _), (10, _), (13, _), (11, _), (7, _), (2, _)]) rfl ?_; intro a hf
                      refine rd hf rfl (yl_pickTT rfl hgT4 rfl) rfl rfl ?_; intro a hf
                      refine rd hf rfl (yl_boolEq rfl rfl Try.underlying4 rfl) rfl rfl ?_; intro a hf
                      refine plan_nil ?_
                      exact ⟨(hf.sel [150, 22, 20, 18, 19, 12, 17, 15, 14, 10, 13, 11, 7, 2] (l' := [(150, _), (22, _), (20, _), (18, _), (19, _), (12, _), (17, _), (15, _), (14, _), (10, _), (13, _), (11, _), (7, _), (2, _)]) rfl).fix (by simp only [hisf]; simp [hg2]), hT⟩
                    · have hgT4 : due (t + x.b) x.c s.L[k] = false := by simpa using hg2
                      refine rdF hf rfl rfl rfl rfl (by first | exact hgT4 | simp [hgT4]) rfl (l' := [(145, _), (144, _), (143, _), (142, _), (22, _), (21, _), (20, _), (18, _), (19, _), (12, _), (17, _), (15, _), (14, _), (10, _), (13, _), (11, _), (7, _), (2, _)]) rfl ?_; intro a hf
                      refine efF hf rfl rfl rfl rfl (by first | exact hgT4 | simp [hgT4]) hT.allR (by simp [Nat.blt]) (l' := [(146, _), (145, _), (144, _), (143, _), (142, _), (22, _), (21, _), (20, _), (18, _), (19, _), (12, _), (17, _), (15, _), (14, _), (10, _), (13, _), (11, _), (7, _), (2, _)]) rfl ?_; intro a hf
                      refine rdF hf rfl rfl rfl rfl (by first | exact hgT4 | simp [hgT4]) rfl (l' := [(147, _), (146, _), (145, _), (144, _), (143, _), (142, _), (22, _), (21, _), (20, _), (18, _), (19, _), (12, _), (17, _), (15, _), (14, _), (10, _), (13, _), (11, _), (7, _), (2, _)]) rfl ?_; intro a hf
                      refine rdF hf rfl rfl rfl rfl (by first | exact hgT4 | simp [hgT4]) rfl (l' := [(148, _), (147, _), (146, _), (145, _), (144, _), (143, _), (142, _), (22, _), (21, _), (20, _), (18, _), (19, _), (12, _), (17, _), (15, _), (14, _), (10, _), (13, _), (11, _), (7, _), (2, _)]) rfl ?_; intro a hf
                      refine rd hf rfl (yl_pickFF rfl hgT4 rfl) rfl rfl ?_; intro a hf
                      refine rd hf rfl (yl_boolEq rfl rfl Try.underlying4 rfl) rfl rfl ?_; intro a hf
                      refine plan_nil ?_
                      exact ⟨(hf.sel [150, 22, 20, 18, 19, 12, 17, 15, 14, 10, 13, 11, 7, 2] (l' := [(150, _), (22, _), (20, _), (18, _), (19, _), (12, _), (17, _), (15, _), (14, _), (10, _), (13, _), (11, _), (7, _), (2, _)]) rfl).fix (by simp only [hisf]; simp [hg2]), hT⟩
                  · clear hf hf0 hT; intro a w hf hT
                    refine wp_ifFF hf rfl (rfl) ?_
                    refine wpIn_skip ?_
                    refine wpIn_seq ?_
                    refine wpIn_seq ?_
                    -- region 30 (outright.go:145)
                    refine wp_reg ([]) ([_, _, _, _, _, _, _, _, _] ++ rs) [(0, true)] mixed (by kernel_rfl) (hT) ?_; intro w hT
                    refine rd hf rfl (yl_move rfl) rfl rfl ?_; intro a hf
                    refine plan_nil ?_
                    refine wp_if hf rfl (fun his => ?_) (fun his => ?_)
                    · -- then
                      have his2 := hisf.1 (of_decide_eq_true his)
                      rw [if_pos (hism.2 his2)] at hbg
                      refine wpIn_seq ?_
                      -- region 31 (outright.go:146)
                      refine wp_reg ([]) ([_, _, _, _, _, _, _, _, _] ++ rs) [(0, true), (1, true), (2, true)] mixed (by kernel_rfl) (hT) ?_; intro w hT
                      refine rd hf rfl (yl_move rfl) rfl rfl ?_; intro a hf
                      refine rd hf rfl (yl_add rfl rfl (by unfold inI64; omega)) rfl rfl ?_; intro a hf
                      refine rw_ hf rfl (yl_assign rfl) rfl (l' := [(18, _), (153, _), (152, _), (151, _), (150, _), (22, _), (20, _), (19, _), (12, _), (17, _), (15, _), (14, _), (10, _), (13, _), (11, _), (7, _), (2, _)]) rfl ?_; intro a hf
                      refine plan_nil ?_
                      replace hf := hf.sel [18, 20, 19, 12, 17, 15, 14, 10, 13, 11, 7, 2] (l' := [(18, _), (20, _), (19, _), (12, _), (17, _), (15, _), (14, _), (10, _), (13, _), (11, _), (7, _), (2, _)]) rfl
                      refine wpIn_seq ?_
                      -- region 32 (outright.go:147)
                      refine wp_reg ([]) ([_, _, _, _, _, _, _, _, _] ++ rs) [(0, true), (1, true), (2, false), (3, true), (4, true)] mixed (by kernel_rfl) (hT) ?_; intro w hT
                      refine rd hf rfl (yl_move rfl) rfl rfl ?_; intro a hf
                      refine rd hf rfl (yl_loadB Try.underlying44 rfl sz_44 (vs := s.L[k].cells) (.head _) rfl (pt_self _ _) rfl rfl) rfl rfl ?_; intro a hf
                      refine ef_call hf rfl (wanted_none _ _ rfl) rfl rfl (by kernel_rfl) (Spec.frame (L2 := []) (lbytes_spec s.L[k] hT)) rfl (l' := [(155, _), (154, _), (18, _), (20, _), (19, _), (12, _), (17, _), (15, _), (14, _), (10, _), (13, _), (11, _), (7, _), (2, _)]) rfl ?_; rintro a w v L ⟨L1, ⟨rfl, rfl⟩, rfl⟩ hf hT
                      refine rd hf rfl (yl_sub rfl rfl (by unfold inI64; omega)) rfl rfl ?_; intro a hf
                      refine rw_ hf rfl (yl_assign rfl) rfl (l' := [(12, _), (157, _), (156, _), (155, _), (154, _), (18, _), (20, _), (19, _), (17, _), (15, _), (14, _), (10, _), (13, _), (11, _), (7, _), (2, _)]) rfl ?_; intro a hf
                      refine plan_nil ?_
                      replace hf := hf.sel [12, 18, 20, 19, 17, 15, 14, 10, 13, 11, 7, 2] (l' := [(12, _), (18, _), (20, _), (19, _), (17, _), (15, _), (14, _), (10, _), (13, _), (11, _), (7, _), (2, _)]) rfl
                      -- region 33 (outright.go:148)
                      refine wp_reg ([]) ([_, _, _, _, _, _, _, _, _] ++ rs) [(0, true), (1, true), (2, false)] mixed (by kernel_rfl) (hT) ?_; intro w hT
                      refine rd hf rfl (yl_move rfl) rfl rfl ?_; intro a hf
                      refine rd hf rfl (yl_faddr Try.underlying44 rfl rfl sz_2 (k := 6) rfl) rfl rfl ?_; intro a hf
                      replace hT : Tot _ _ ([_] ++ ([_, _, _, _, _, _, _, _] ++ rs)) := hT.bring 0
                      refine efS_last hf hT rfl rfl (by kernel_rfl) (ef_store rfl rfl sz_2 rfl rfl) ?_; rintro w L rfl hT
                      refine wpIn_seq ?_
                      -- region 34 (outright.go:150)
                      refine wp_reg ([]) ([_, _, _, _, _, _, _, _, _] ++ rs) [(0, true), (1, true), (2, true), (3, true), (4, true), (5, true)] mixed (by kernel_rfl) (hT) ?_; intro w hT
                      refine rd hf rfl (yl_move rfl) rfl rfl ?_; intro a hf
                      refine rd hf rfl (yl_move rfl) rfl rfl ?_; intro a hf
                      refine rd hf rfl (yl_indexE rfl rfl Try.underlying35 sz_44 (hH2.els (.tail _ (.head _))) (by omega) (by omega)) rfl rfl ?_; intro a hf
                      refine rd hf rfl (yl_loadA Try.underlying44 rfl sz_44 rfl ((hH2.els (.tail _ (.head _))).row hjn) rfl) rfl rfl ?_; intro a hf
                      refine rd hf rfl (yl_loadB Try.underlying44 rfl sz_44 (vs := (Hld.cells { s.L[k] with sent := t + x.b })) (.head _) rfl (pt_self _ _) rfl rfl) rfl rfl ?_; intro a hf
                      refine rd hf rfl (yl_aggEq (k := 3) rfl rfl (by kernel_rfl) (by decide) (eqH (bst s (4 * x.a) (t + x.b) x.c).L[k] { s.L[k] with sent := t + x.b }) rfl) rfl rfl ?_; intro a hf
                      refine plan_nil ?_
                      replace hf := hf.sel [165, 12, 18, 19, 17, 15, 14, 10, 13, 11, 7, 2] (l' := [(165, _), (12, _), (18, _), (19, _), (17, _), (15, _), (14, _), (10, _), (13, _), (11, _), (7, _), (2, _)]) rfl
                      refine wp_if hf rfl (fun hne => ?_) (fun hne => ?_)
                      · -- then
                        rw [hbg] at hne; simp at hne
                      · -- else
                        refine wpIn_skip ?_
                        -- region 24 (outright.go:138)
                        refine wp_reg ([]) ([_, _, _, _, _, _, _, _, _] ++ rs) [(0, true), (1, true), (2, true)] mixed (by kernel_rfl) (hT) ?_; intro w hT
                        refine rd hf rfl (yl_move rfl) rfl rfl ?_; intro a hf
                        refine rd hf rfl (yl_add rfl rfl (by unfold inI64; omega)) rfl rfl ?_; intro a hf
                        refine rw_ hf rfl (yl_assign rfl) rfl (l' := [(19, _), (112, _), (111, _), (165, _), (12, _), (18, _), (17, _), (15, _), (14, _), (10, _), (13, _), (11, _), (7, _), (2, _)]) rfl ?_; intro a hf
                        refine plan_nil ?_
                        replace hf := hf.sel [19, 12, 18, 17, 15, 14, 10, 13, 11, 7, 2] (l' := [(19, _), (12, _), (18, _), (17, _), (15, _), (14, _), (10, _), (13, _), (11, _), (7, _), (2, _)]) rfl
                        exact ⟨k + 1, _, (by have h := hf.sel [18, 19, 12, 17, 15, 14, 10, 13, 11, 7, 2] (l' := [(18, _), (19, _), (12, _), (17, _), (15, _), (14, _), (10, _), (13, _), (11, _), (7, _), (2, _)]) rfl; rw [hsuc, if_pos his2, List.length_append]; exact h), ⟨rfl, by omega⟩, (hT.brings [0]).tail, by first | omega | (dsimp only; omega)⟩
                    · -- else
                      have his2 := fun h => of_decide_eq_false his (hisf.2 h)
                      rw [if_neg (fun h => his2 (hism.1 h))] at hbg
                      refine wpIn_skip ?_
                      refine wpIn_seq ?_
                      -- region 34 (outright.go:150)
                      refine wp_reg ([]) ([_, _, _, _, _, _, _, _, _] ++ rs) [(0, true), (1, true), (2, true), (3, true), (4, true), (5, true)] mixed (by kernel_rfl) (hT) ?_; intro w hT
                      refine rd hf rfl (yl_move rfl) rfl rfl ?_; intro a hf
                      refine rd hf rfl (yl_move rfl) rfl rfl ?_; intro a hf
                      refine rd hf rfl (yl_indexE rfl rfl Try.underlying35 sz_44 (hH2.els (.tail _ (.head _))) (by omega) (by omega)) rfl rfl ?_; intro a hf
                      refine rd hf rfl (yl_loadA Try.underlying44 rfl sz_44 rfl ((hH2.els (.tail _ (.head _))).row hjn) rfl) rfl rfl ?_; intro a hf
                      refine rd hf rfl (yl_loadB Try.underlying44 rfl sz_44 (vs := s.L[k].cells) (.head _) rfl (pt_self _ _) rfl rfl) rfl rfl ?_; intro a hf
                      refine rd hf rfl (yl_aggEq (k := 3) rfl rfl (by kernel_rfl) (by decide) (eqH (bst s (4 * x.a) (t + x.b) x.c).L[k] s.L[k]) rfl) rfl rfl ?_; intro a hf
                      refine plan_nil ?_
                      replace hf := hf.sel [165, 18, 19, 12, 17, 15, 14, 10, 13, 11, 7, 2] (l' := [(165, _), (18, _), (19, _), (12, _), (17, _), (15, _), (14, _), (10, _), (13, _), (11, _), (7, _), (2, _)]) rfl
                      refine wp_if hf rfl (fun hne => ?_) (fun hne => ?_)
                      · -- then
                        rw [hbg] at hne; simp at hne
                      · -- else
                        refine wpIn_skip ?_
                        -- region 24 (outright.go:138)
                        refine wp_reg ([]) ([_, _, _, _, _, _, _, _, _] ++ rs) [(0, true), (1, true), (2, true)] mixed (by kernel_rfl) (hT) ?_; intro w hT
                        refine rd hf rfl (yl_move rfl) rfl rfl ?_; intro a hf
                        refine rd hf rfl (yl_add rfl rfl (by unfold inI64; omega)) rfl rfl ?_; intro a hf
                        refine rw_ hf rfl (yl_assign rfl) rfl (l' := [(19, _), (112, _), (111, _), (165, _), (18, _), (12, _), (17, _), (15, _), (14, _), (10, _), (13, _), (11, _), (7, _), (2, _)]) rfl ?_; intro a hf
                        refine plan_nil ?_
                        replace hf := hf.sel [19, 18, 12, 17, 15, 14, 10, 13, 11, 7, 2] (l' := [(19, _), (18, _), (12, _), (17, _), (15, _), (14, _), (10, _), (13, _), (11, _), (7, _), (2, _)]) rfl
                        exact ⟨k + 1, _, (by have h := hf.sel [18, 19, 12, 17, 15, 14, 10, 13, 11, 7, 2] (l' := [(18, _), (19, _), (12, _), (17, _), (15, _), (14, _), (10, _), (13, _), (11, _), (7, _), (2, _)]) rfl; rw [hsuc, if_neg his2]; exact h), ⟨rfl, by omega⟩, (hT.brings [0]).tail, by first | omega | (dsimp only; omega)⟩
            · -- else
              obtain rfl : k = s.L.length := by omega
              refine wpIn_exit ?_
              refine then_exit ?_
              refine then_exit ?_
              refine inBlock_hit ?_
              refine wpIn_seq ?_
              -- region 36 (outright.go:154)
              refine wp_reg ([]) ([_, _, _, _, _, _, _, _] ++ rs) [(0, true), (1, true), (2, true), (3, true)] mixed (by kernel_rfl) (hT) ?_; intro w hT
              refine rd hf rfl (yl_move rfl) rfl rfl ?_; intro a hf
              refine rd hf rfl (yl_move rfl) rfl rfl ?_; intro a hf
              refine rd hf rfl (yl_lenE rfl Try.underlying37 (hD.els (.tail _ (.head _)))) rfl rfl ?_; intro a hf
              refine rd hf rfl (yl_cmp rfl rfl rfl) rfl rfl ?_; intro a hf
              refine plan_nil ?_
              replace hf := hf.sel [169, 10, 11, 7, 2] (l' := [(169, _), (10, _), (11, _), (7, _), (2, _)]) rfl
              refine wp_ifd hf rfl (fun hae => ?_) (fun hae => ?_)
              · -- then
                exact absurd hae (by rw [List.take_length, hd]; simp)
              · -- else
                refine wpIn_skip ?_
                -- region 13 (outright.go:128)
                refine wp_reg ([]) ([_, _, _, _, _, _, _, _] ++ rs) [(0, true), (1, true), (2, true)] mixed (by kernel_rfl) (hT) ?_; intro w hT
                refine rd hf rfl (yl_move rfl) rfl rfl ?_; intro a hf
                refine rd hf rfl (yl_add rfl rfl (by unfold inI64; omega)) rfl rfl ?_; intro a hf
                refine rw_ hf rfl (yl_assign rfl) rfl (l' := [(11, _), (64, _), (63, _), (169, _), (10, _), (7, _), (2, _)]) rfl ?_; intro a hf
                refine plan_nil ?_
                replace hf := hf.sel [11, 10, 7, 2] (l' := [(11, _), (10, _), (7, _), (2, _)]) rfl
                exact ⟨(i + 1, bst s (4 * x.a) (t + x.b) x.c, t + x.b), _, hf.sel [11, 10, 7, 2] rfl, ⟨⟨hI.bst _ _ _, by rw [hlb]; exact hli, rfl, by omega, by omega⟩, by omega, _, _, _, _, _, hBq, rfl⟩, (hT.brings [7, 2, 2]).tail.tail.tail, by first | omega | (dsimp only; omega)⟩
        · -- else
          refine wpIn_exit ?_
          refine then_exit ?_
          refine then_exit ?_
          refine inBlock_hit ?_
          refine wpIn_seq ?_
          -- region 38 (outright.go:158)
          refine wp_reg ([_, _, _, _, _]) ([] ++ rs) [(0, true), (1, true), (2, true), (3, false), (4, true), (5, true), (6, true), (7, true)] mixed (by kernel_rfl) (hT.brings [4, 4, 4, 4, 4]) ?_; intro w hT
          refine rd hf rfl (yl_move rfl) rfl rfl ?_; intro a hf
          refine rd hf rfl (yl_move rfl) rfl rfl ?_; intro a hf
          refine rd hf rfl (yl_sub rfl rfl (by unfold inI64; omega)) rfl rfl ?_; intro a hf
          replace hT : Tot _ _ ([_, _, _, _, _] ++ ([] ++ rs)) := hT.bring 4
          replace hT : Tot _ _ ([_, _, _, _, _] ++ ([] ++ rs)) := hT.bring 4
          replace hT : Tot _ _ ([_, _, _, _, _] ++ ([] ++ rs)) := hT.bring 4
          replace hT : Tot _ _ ([_, _, _, _, _] ++ ([] ++ rs)) := hT.bring 4
          replace hT : Tot _ _ ([_, _, _, _, _] ++ ([] ++ rs)) := hT.bring 4
          refine ef_call hf rfl (wanted_none _ _ rfl) rfl rfl (by kernel_rfl) (Spec.frame (L2 := []) (Burst5_spec b s _ hB hI (by omega) (by omega) 1 (t - 1) 0 hT)) rfl (l' := [(173, _), (172, _), (171, _), (62, _), (11, _), (10, _), (7, _), (2, _)]) rfl ?_; rintro a w v L ⟨L1, ⟨s', d, er, q, XQ, Lq, rfl, hD, hBr, rfl, hR⟩, rfl⟩ hf hT
          obtain ⟨-, rfl, -, -⟩ := hR.resolve_right (fun h => h.1 (.inr (.inl (.inl (by omega)))))
          obtain ⟨z0, z1, z2, z3, z4, rfl⟩ := hBr.five
          refine rd hf rfl (yl_move rfl) rfl rfl ?_; intro a hf
          refine rd hf rfl (yl_extract rfl rfl) rfl rfl ?_; intro a hf
          refine rd hf rfl (yl_extract rfl rfl) rfl rfl ?_; intro a hf
          refine rd hf rfl (yl_assign rfl) rfl rfl ?_; intro a hf
          refine plan_nil ?_
          replace hf := hf.sel [8] (l' := [(8, _)]) rfl
          refine wpIn_seq ?_
          -- region 39 (outright.go:159)
          refine wp_reg ([]) ([_, _, _, _, _, _] ++ rs) [(0, true), (1, true), (2, true), (3, false), (4, true), (5, true)] mixed (by kernel_rfl) (hT) ?_; intro w hT
          refine rd hf rfl (yl_move rfl) rfl rfl ?_; intro a hf
          refine rd hf rfl (yl_cmp rfl rfl rfl) rfl rfl ?_; intro a hf
          refine rd hf rfl (yl_move rfl) rfl rfl ?_; intro a hf
          refine ef_call hf rfl (by rw [wanted_some hf rfl rfl rfl rfl]; first | rfl | simp | decide) rfl rfl (by kernel_rfl) (Spec.frame (L2 := []) (fine_spec hT)) rfl (l' := [(179, _), (178, _), (177, _), (8, _)]) rfl ?_; rintro a w v L ⟨L1, ⟨rfl, rfl⟩, rfl⟩ hf hT
          refine rd hf rfl (yl_pickTT rfl rfl rfl) rfl rfl ?_; intro a hf
          refine rd hf rfl (yl_assign rfl) rfl rfl ?_; intro a hf
          refine plan_nil ?_
          replace hf := hf.sel [6] (l' := [(6, _)]) rfl
          refine wpIn_ret ?_
          exact body_ret hf (L := []) hT.tail.tail.tail.tail.tail.tail rfl rfl ⟨rfl, rfl⟩
end Go.Proofs.Ytjhbgciocffihaa
