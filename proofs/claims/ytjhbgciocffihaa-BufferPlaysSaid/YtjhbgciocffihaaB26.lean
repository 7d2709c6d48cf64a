-- written by gen.py out of walks texts of my own
import Derived.Test.YtjhbgciocffihaaB25
set_option linter.unusedVariables false
set_option linter.unusedSimpArgs false
set_option maxHeartbeats 4000000
namespace Go.Proofs.Ytjhbgciocffihaa
theorem Goes.det {s0 s1 s2 : BS} {d1 d2 : List Int} (h1 : Goes s0 s1 d1) (f1 : ¬ Full s1) (h2 : Goes s0 s2 d2) (f2 : ¬ Full s2) : s1 = s2 ∧ d1 = d2 := by
  obtain ⟨k1, e1⟩ := h1.final f1
  obtain ⟨k2, e2⟩ := h2.final f2
  have a1 := e1 k2
  have a2 := e2 k1
  rw [Nat.add_comm, a2] at a1
  simp only [Prod.mk.injEq] at a1
  exact ⟨a1.1.symm, a1.2.symm⟩
theorem PutRes.det {s : BS} {r : Rec} {s1 s2 : BS} {d1 d2 : List Int} {e1 e2 : Int} (h1 : PutRes s r s1 d1 e1) (h2 : PutRes s r s2 d2 e2) : s2 = s1 ∧ d2 = d1 ∧ e2 = e1 := by
  rcases h1 with ⟨a1, rfl, rfl, rfl⟩ | ⟨a1, a2, rfl, rfl, rfl⟩ | ⟨a1, a2, a3, rfl, rfl, rfl⟩ | ⟨a1, a2, a3, rfl, a4, a5⟩ <;>
  rcases h2 with ⟨b1, rfl, rfl, rfl⟩ | ⟨b1, b2, rfl, rfl, rfl⟩ | ⟨b1, b2, b3, rfl, rfl, rfl⟩ | ⟨b1, b2, b3, rfl, b4, b5⟩ <;>
  first
  | exact ⟨rfl, rfl, rfl⟩
  | exact absurd b1 a1
  | exact absurd a1 b1
  | exact absurd a2 b2
  | exact absurd b2 a2
  | exact absurd a3 (by omega)
  | (obtain ⟨q1, q2⟩ := a4.det a5 b4 b5; exact ⟨q1.symm, q2.symm, rfl⟩)
def BurRes (s : BS) (n t wt : Int) (s' : BS) (d : List Int) (er : Int) : Prop := (Oor s n t wt ∧ er = 3 ∧ s' = s ∧ d = []) ∨ (¬ Oor s n t wt ∧ er = 0 ∧ s' = bst s n t wt ∧ d = (bf n t wt s.L).2)
theorem BurRes.det {s : BS} {n t wt : Int} {s1 s2 : BS} {d1 d2 : List Int} {e1 e2 : Int} (h1 : BurRes s n t wt s1 d1 e1) (h2 : BurRes s n t wt s2 d2 e2) : s2 = s1 ∧ d2 = d1 ∧ e2 = e1 := by
  rcases h1 with ⟨a, rfl, rfl, rfl⟩ | ⟨a, rfl, rfl, rfl⟩ <;> rcases h2 with ⟨b, rfl, rfl, rfl⟩ | ⟨b, rfl, rfl, rfl⟩ <;>
  first
  | exact ⟨rfl, rfl, rfl⟩
  | exact absurd a b
  | exact absurd b a
theorem BurRes.keep {s : BS} {n t wt : Int} {s1 : BS} {d1 : List Int} {e1 : Int} (h : BurRes s n t wt s1 d1 e1) (hI : Inv s) (ht : 0 ≤ s.time) : Inv s1 ∧ s1.L.length = s.L.length ∧ 0 ≤ s1.time := by
  rcases h with ⟨a, rfl, rfl, rfl⟩ | ⟨a, rfl, rfl, rfl⟩
  · exact ⟨hI, rfl, ht⟩
  · refine ⟨hI.bst _ _ _, ?_, ?_⟩
    · have := congrArg List.length (ids_setSent s.L (bfold n (s.L.filter (due t wt))).2 t); simpa [ids, bst] using this
    · show 0 ≤ t; unfold Oor at a; omega
theorem AckRes.det {S : List Sp} {s s1 s2 : BS} {n1 n2 : Int} (h1 : AckRes S s s1 n1) (h2 : AckRes S s s2 n2) : s2 = s1 ∧ n2 = n1 := by
  rcases h1 with ⟨a, rfl, rfl⟩ | ⟨a, rfl, rfl⟩ <;> rcases h2 with ⟨b, rfl, rfl⟩ | ⟨b, rfl, rfl⟩ <;>
  first
  | exact ⟨rfl, rfl⟩
  | exact absurd a b
  | exact absurd b a
theorem AckRes.keep {S : List Sp} {s s1 : BS} {n1 : Int} (h : AckRes S s s1 n1) (hI : Inv s) : Inv s1 ∧ s1.L.length ≤ s.L.length ∧ s1.time = s.time := by
  rcases h with ⟨a, rfl, rfl⟩ | ⟨a, rfl, rfl⟩
  · exact ⟨hI, Nat.le_refl _, rfl⟩
  · exact ⟨hI.ackTo _ _, ackTo_len _ _ _, rfl⟩
theorem heldT_spec {e : Env} {w : World} {rs : List Part} (xs : List Hld) (v0 v1 : Value) (hE : Els encHld rs v0 xs) (hE1 : Els encHld rs v1 xs) (hT : Tot e w rs) : Spec Try.prog 16 #[v0, v1] e w rs (fun v L => v = .bool true ∧ L = []) :=
  (held_spec xs xs v0 v1 hE hE1 hT).mono fun v L h => ⟨by rw [h.1]; simp, h.2⟩
theorem BufferPlays_spec {e : Env} {w : World} {rs : List Part} (cap : Int) (acs : List Ac) (hOk : ∀ a ∈ acs, a.Ok rs) (v1 : Value) (hE : Els encAc rs v1 acs) (hT : Tot e w rs) : Spec Try.prog 5 #[.int .i64 cap, v1] e w rs (fun v L => v = .bool true ∧ L = []) := by
  refine spec_body Try.func5 rfl Try.ntmps5 rfl rfl ?_
  intro a hf
  refine wpIn_seq ?_
  -- region 0 (law.go:87)
  refine wp_reg ([]) ([] ++ rs) [(0, true)] mixed (by kernel_rfl) (hT) ?_; intro w hT
  refine rd hf rfl (yl_assign rfl) rfl rfl ?_; intro a hf
  refine plan_nil ?_
  refine wpIn_seq ?_
  refine wpIn_seq ?_
  -- region 1 (law.go:88)
  refine wp_reg ([]) ([] ++ rs) [(0, true), (1, false)] mixed (by kernel_rfl) (hT) ?_; intro w hT
  refine rd hf rfl (yl_move rfl) rfl rfl ?_; intro a hf
  refine ef_call hf rfl (wanted_none _ _ rfl) rfl rfl (by kernel_rfl) (Spec.frame (L2 := []) (long_spec acs 30 v1 hE.app hT)) rfl (l' := [(18, _), (4, _), (0, _), (1, _)]) rfl ?_; rintro a w v L ⟨L1, ⟨r0, rfl, hr0, rfl⟩, rfl⟩ hf hT
  refine plan_nil ?_
  refine wp_if hf rfl (fun hlong => ?_) (fun hlong => ?_)
  · -- then
    refine wpIn_seq ?_
    -- region 2 (law.go:89)
    refine wp_reg ([]) ([] ++ rs) [(0, false), (1, true)] mixed (by kernel_rfl) (hT) ?_; intro w hT
    refine ef_call hf rfl (wanted_none _ _ rfl) rfl rfl (by kernel_rfl) (Spec.frame (L2 := []) (fine_spec hT)) rfl (l' := [(19, _), (18, _), (4, _), (0, _), (1, _)]) rfl ?_; rintro a w v L ⟨L1, ⟨rfl, rfl⟩, rfl⟩ hf hT
    refine rw_ hf rfl (yl_assign rfl) rfl (l' := [(4, _), (20, _), (19, _), (18, _), (0, _), (1, _)]) rfl ?_; intro a hf
    refine plan_nil ?_
    replace hf := hf.sel [4] (l' := [(4, _)]) rfl
    refine wpIn_ret ?_
    exact body_ret hf (L := []) hT rfl rfl ⟨rfl, rfl⟩
  · -- else
    obtain ⟨hlen, hspl⟩ := hr0 hlong
    refine wpIn_skip ?_
    refine wpIn_seq ?_
    by_cases hcap : 1 ≤ cap ∧ cap ≤ 16777216
    · skip
      -- region 3 (law.go:91)
      refine wp_reg ([]) ([] ++ rs) [(0, true), (1, false), (2, true), (3, true), (4, true), (5, true), (6, true)] mixed (by kernel_rfl) (hT) ?_; intro w hT
      refine rd hf rfl (yl_move rfl) rfl rfl ?_; intro a hf
      refine ef_call hf rfl (wanted_none _ _ rfl) rfl rfl (by kernel_rfl) (Spec.frame (L2 := []) ((New_spec (cap) hT).mono (fun v L h => by rw [if_pos (hcap)] at h; exact h))) rfl (l' := [(22, _), (19, _), (18, _), (4, _), (0, _), (1, _)]) rfl ?_; rintro a w v L ⟨L1, ⟨b, rfl, hB0⟩, rfl⟩ hf hT
      obtain ⟨y0, y1, y2, y3, y4, rfl⟩ := hB0.five
      refine rd hf rfl (yl_move rfl) rfl rfl ?_; intro a hf
      refine rd hf rfl (yl_extract rfl rfl) rfl rfl ?_; intro a hf
      refine rd hf rfl (yl_extract rfl rfl) rfl rfl ?_; intro a hf
      refine rd hf rfl (yl_assign rfl) rfl rfl ?_; intro a hf
      refine rd hf rfl (yl_assign rfl) rfl rfl ?_; intro a hf
      refine plan_nil ?_
      replace hf := hf.sel [6, 5, 0, 1] (l' := [(6, _), (5, _), (0, _), (1, _)]) rfl
      refine wpIn_seq ?_
      -- region 4 (law.go:92)
      refine wp_reg ([]) ([_, _, _, _, _] ++ rs) [(0, true), (1, false), (2, true), (3, true), (4, true), (5, true), (6, true)] mixed (by kernel_rfl) (hT) ?_; intro w hT
      refine rd hf rfl (yl_move rfl) rfl rfl ?_; intro a hf
      refine ef_call hf rfl (wanted_none _ _ rfl) rfl rfl (by kernel_rfl) (Spec.frame (L2 := []) ((rNew_spec cap hT).mono (fun v L h => by rw [if_pos hcap] at h; exact h))) rfl (l' := [(27, _), (6, _), (5, _), (0, _), (1, _)]) rfl ?_; rintro a w v L ⟨L1, ⟨rb, rfl, lv0, XL0, rfl, hL0⟩, rfl⟩ hf hT
      refine rd hf rfl (yl_move rfl) rfl rfl ?_; intro a hf
      refine rd hf rfl (yl_extract rfl rfl) rfl rfl ?_; intro a hf
      refine rd hf rfl (yl_extract rfl rfl) rfl rfl ?_; intro a hf
      refine rd hf rfl (yl_assign rfl) rfl rfl ?_; intro a hf
      refine rd hf rfl (yl_assign rfl) rfl rfl ?_; intro a hf
      refine plan_nil ?_
      replace hf := hf.sel [8, 7, 6, 5, 1] (l' := [(8, _), (7, _), (6, _), (5, _), (1, _)]) rfl
      refine wpIn_seq ?_
      refine wpIn_seq ?_
      -- region 5 (law.go:93)
      refine wp_reg ([]) ([_, _, _, _, _, _, _] ++ rs) [(0, true), (1, true), (2, true)] mixed (by kernel_rfl) (hT) ?_; intro w hT
      refine rd hf rfl (yl_move rfl) rfl rfl ?_; intro a hf
      refine rd hf rfl (yl_move rfl) rfl rfl ?_; intro a hf
      refine rd hf rfl (yl_cmp rfl rfl rfl) rfl rfl ?_; intro a hf
      refine plan_nil ?_
      refine wp_ifFF hf rfl (rfl) ?_
      refine wpIn_skip ?_
      refine wpIn_seq ?_
      refine wpIn_seq ?_
      -- region 7 (law.go:96)
      refine wp_reg ([]) ([_, _, _, _, _, _, _] ++ rs) [(0, true), (1, true), (2, true), (3, true), (4, true), (5, true), (6, true), (7, true), (8, true), (9, true)] mixed (by kernel_rfl) (hT) ?_; intro w hT
      refine rd hf rfl (yl_move rfl) rfl rfl ?_; intro a hf
      refine rd hf rfl (yl_cmp rfl rfl rfl) rfl rfl ?_; intro a hf
      refine rd hf rfl (yl_move rfl) rfl rfl ?_; intro a hf
      refine rdT hf rfl rfl rfl rfl (rfl) (yl_move rfl) rfl (l' := [(37, _), (36, _), (35, _), (34, _), (33, _), (32, _), (31, _), (8, _), (7, _), (6, _), (5, _), (1, _)]) rfl ?_; intro a hf
      refine rdT hf rfl rfl rfl rfl (rfl) (yl_ptrNil rfl rfl Try.underlying25 rfl) rfl (l' := [(38, _), (37, _), (36, _), (35, _), (34, _), (33, _), (32, _), (31, _), (8, _), (7, _), (6, _), (5, _), (1, _)]) rfl ?_; intro a hf
      refine rd hf rfl (yl_pickFF rfl rfl rfl) rfl rfl ?_; intro a hf
      refine rd hf rfl (yl_move rfl) rfl rfl ?_; intro a hf
      refine rdT hf rfl rfl rfl rfl (rfl) (yl_move rfl) rfl (l' := [(41, _), (40, _), (39, _), (38, _), (37, _), (36, _), (35, _), (34, _), (33, _), (32, _), (31, _), (8, _), (7, _), (6, _), (5, _), (1, _)]) rfl ?_; intro a hf
      refine rdT hf rfl rfl rfl rfl (rfl) (yl_ptrNil rfl rfl Try.underlying55 rfl) rfl (l' := [(42, _), (41, _), (40, _), (39, _), (38, _), (37, _), (36, _), (35, _), (34, _), (33, _), (32, _), (31, _), (8, _), (7, _), (6, _), (5, _), (1, _)]) rfl ?_; intro a hf
      refine rd hf rfl (yl_pickFF rfl rfl rfl) rfl rfl ?_; intro a hf
      refine plan_nil ?_
      replace hf := hf.sel [43, 8, 7, 6, 5, 1] (l' := [(43, _), (8, _), (7, _), (6, _), (5, _), (1, _)]) rfl
      refine wp_ifFF hf rfl (rfl) ?_
      refine wpIn_skip ?_
      refine wpIn_seq ?_
      refine wpIn_seq ?_
      -- region 9 (law.go:99)
      refine wp_reg ([]) ([_, _, _, _, _, _, _] ++ rs) [(0, true)] mixed (by kernel_rfl) (hT) ?_; intro w hT
      refine rd hf rfl (yl_assign rfl) rfl rfl ?_; intro a hf
      refine plan_nil ?_
      refine wpIn_block ?_
      replace hT := hT.bring 1
      replace hT := hT.bring 1
      replace hT := hT.bring 6
      replace hT := hT.bring 6
      replace hT := hT.bring 6
      replace hT := hT.bring 6
      replace hT := hT.bring 6
      refine wp_loopS (σ := Nat × Nat × BS × Int) (fun (i, b, s, er) => [(9, .int .i64 (i : Nat)), (5, .pointer (some ⟨b, 0, none⟩)), (6, .int .i64 er), (8, .int .i64 er)]) [(7, _), (1, _)] (fun (i, b, s, er) L => (Inv s ∧ s.L.length ≤ i ∧ 0 ≤ s.time) ∧ i ≤ acs.length ∧ ∃ y0 y1 y2 y3 y4 lv XL, BufR b s [y0, y1, y2, y3, y4] ∧ Sl encHld 44 lv s.L XL ∧ L = [y0, y1, y2, y3, y4, pt rb (.cells (rbCells s.cap s.time lv).toArray 68), XL]) (fun (i, b, s, er) => acs.length - i) (0, b, ⟨cap, 0, 0, []⟩, 0) (L := [_, _, _, _, _, _, _]) (R := [] ++ rs) (hf.sel [9, 5, 6, 8, 7, 1] rfl) (⟨⟨inv0 _ hcap, Nat.le_refl _, Int.le_refl _⟩, Nat.zero_le _, _, _, _, _, _, lv0, XL0, hB0, hL0, rfl⟩) hT ?_
      clear hf hT; rintro ⟨i, b, s, er⟩ a w L hf ⟨⟨hI, hli, hti⟩, hi, y0, y1, y2, y3, y4, lv, XL, hB, hL, rfl⟩ hT
      replace hf : Fr _ [(9, .int .i64 (i : Nat)), (5, .pointer (some ⟨b, 0, none⟩)), (6, .int .i64 er), (8, .int .i64 er), (7, _), (1, _)] _ _ := hf
      have hRB : RB rb s.cap s.time s.L [_, _] := ⟨lv, XL, rfl, hL⟩
      refine wpIn_seq ?_
      refine wpIn_seq ?_
      -- region 10 (law.go:99)
      refine wp_reg ([]) ([_, _, _, _, _, _, _] ++ rs) [(0, true), (1, true), (2, true), (3, true)] mixed (by kernel_rfl) (hT) ?_; intro w hT
      refine rd hf rfl (yl_move rfl) rfl rfl ?_; intro a hf
      refine rd hf rfl (yl_move rfl) rfl rfl ?_; intro a hf
      refine rd hf rfl (yl_lenE rfl Try.underlying53 hE.app) rfl rfl ?_; intro a hf
      refine rd hf rfl (yl_cmp rfl rfl rfl) rfl rfl ?_; intro a hf
      refine plan_nil ?_
      replace hf := hf.sel [56, 9, 5, 6, 8, 7, 1] (l' := [(56, _), (9, _), (5, _), (6, _), (8, _), (7, _), (1, _)]) rfl
      refine wp_ifd hf rfl (fun hlt => ?_) (fun hlt => ?_)
      · -- then
        have hltk : i < acs.length := by omega
        have hj : acs[i]? = some acs[i] := List.getElem?_eq_getElem hltk
        have hxo := hOk acs[i] (List.getElem_mem hltk)
        generalize acs[i] = x at hj hxo
        obtain ⟨hkd, S, hES⟩ := hxo
        refine wpIn_skip ?_
        refine wpIn_seq ?_
        refine wpIn_block ?_
        refine wpIn_seq ?_
        -- region 12 (law.go:100)
        refine wp_reg ([]) ([_, _, _, _, _, _, _] ++ rs) [(0, true), (1, true), (2, true), (3, true), (4, false), (5, false)] mixed (by kernel_rfl) (hT) ?_; intro w hT
        refine rd hf rfl (yl_move rfl) rfl rfl ?_; intro a hf
        refine rd hf rfl (yl_move rfl) rfl rfl ?_; intro a hf
        refine rd hf rfl (yl_indexE rfl rfl Try.underlying53 sz_60 hE.app (by omega) (by omega)) rfl rfl ?_; intro a hf
        refine rd hf rfl (yl_loadA Try.underlying60 rfl sz_60 rfl (hE.app.row hj) rfl) rfl rfl ?_; intro a hf
        refine ef hf hT rfl rfl (ef_alloc zr_60) rfl (l' := [(62, _), (61, _), (60, _), (59, _), (56, _), (9, _), (5, _), (6, _), (8, _), (7, _), (1, _)]) rfl ?_; rintro a w v L ⟨b1, rfl, rfl⟩ hf hT
        refine efS hf hT rfl rfl (ef_storeW rfl rfl sz_60 rfl rfl rfl) ?_; rintro w L rfl hT
        refine plan_nil ?_
        replace hf := hf.sel [10, 9, 5, 6, 8, 7, 1] (l' := [(10, _), (9, _), (5, _), (6, _), (8, _), (7, _), (1, _)]) rfl
        refine wpIn_seq ?_
        -- region 13 (law.go:101)
        refine wp_reg ([]) ([_, _, _, _, _, _, _, _] ++ rs) [(0, true), (1, true)] mixed (by kernel_rfl) (hT) ?_; intro w hT
        refine rd hf rfl (yl_assign rfl) rfl rfl ?_; intro a hf
        refine rd hf rfl (yl_assign rfl) rfl rfl ?_; intro a hf
        refine plan_nil ?_
        refine wpIn_seq ?_
        refine wpIn_seq ?_
        -- region 14 (law.go:102)
        refine wp_reg ([]) ([_, _, _, _, _, _, _, _] ++ rs) [(0, true), (1, true), (2, true)] mixed (by kernel_rfl) (hT) ?_; intro w hT
        refine rd hf rfl (yl_faddr Try.underlying60 rfl rfl sz_5 (k := 0) rfl) rfl rfl ?_; intro a hf
        refine rd hf rfl (yl_load Try.underlying5 rfl rfl ⟨_, .head _, _, _, _, pt_self _ _, rfl⟩) rfl rfl ?_; intro a hf
        refine rd hf rfl (yl_remk rfl rfl (by omega) (by omega)) rfl rfl ?_; intro a hf
        refine plan_nil ?_
        replace hT := hT.bring 7
        replace hT := hT.bring 7
        replace hT := hT.bring 7
        replace hT := hT.bring 7
        replace hT := hT.bring 7
        replace hT := hT.bring 7
        replace hT := hT.bring 7
        have hf0 := hf.sel [9, 7, 1] (l' := [(9, _), (7, _), (1, _)]) rfl
        refine wp_cut (σ := Nat × BS × Int × Value × Value) (L0 := [_, _, _, _, _, _, _]) (R := [_] ++ rs) hf0 hT (fun (b', s', er', q1, q2) => [(5, .pointer (some ⟨b', 0, none⟩)), (6, .int .i64 er'), (8, .int .i64 er'), (11, q1), (12, q2)]) (fun (b', s', er', q1, q2) L => Inv s' ∧ s'.L.length ≤ i + 1 ∧ 0 ≤ s'.time ∧ ∃ d X1 X2 y0 y1 y2 y3 y4 lv' XL', Sl encI 2 q1 d X1 ∧ Sl encI 2 q2 d X2 ∧ BufR b' s' [y0, y1, y2, y3, y4] ∧ Sl encHld 44 lv' s'.L XL' ∧ L = [X1, X2, y0, y1, y2, y3, y4, pt rb (.cells (rbCells s'.cap s'.time lv').toArray 68), XL']) ?_ ?_
        · clear hf0
          refine wpIn_block ?_
          refine wpIn_seq ?_
          -- region 19 (law.go:103)
          refine wp_reg ([]) ([_, _, _, _, _, _, _, _] ++ rs) [(0, true), (1, true)] mixed (by kernel_rfl) (hT) ?_; intro w hT
          refine rd hf rfl (yl_cmp rfl rfl rfl) rfl rfl ?_; intro a hf
          refine rd hf rfl (yl_assign rfl) rfl rfl ?_; intro a hf
          refine plan_nil ?_
          replace hf := hf.sel [77, 65, 12, 11, 10, 9, 5, 6, 8, 7, 1] (l' := [(77, _), (65, _), (12, _), (11, _), (10, _), (9, _), (5, _), (6, _), (8, _), (7, _), (1, _)]) rfl
          refine wp_ifd hf rfl (fun hk77 => ?_) (fun hk77 => ?_)
          · -- then
            refine wpIn_seq ?_
            -- region 20 (law.go:104)
            refine wp_reg ([_, _, _, _, _]) ([_, _, _] ++ rs) [(0, true), (1, true), (2, true), (3, false), (4, true), (5, true), (6, true), (7, true), (8, true)] mixed (by kernel_rfl) (hT.brings [4, 4, 4, 4, 4]) ?_; intro w hT
            refine rd hf rfl (yl_move rfl) rfl rfl ?_; intro a hf
            refine rd hf rfl (yl_faddr Try.underlying60 rfl rfl sz_31 (k := 1) rfl) rfl rfl ?_; intro a hf
            refine rd hf rfl (yl_loadB Try.underlying31 rfl sz_31 (vs := x.r.cells) (.tail _ (.tail _ (.head _))) rfl (pt_self _ _) rfl rfl) rfl rfl ?_; intro a hf
            replace hT : Tot _ _ ([_, _, _, _, _] ++ ([_, _, _] ++ rs)) := hT.bring 4
            replace hT : Tot _ _ ([_, _, _, _, _] ++ ([_, _, _] ++ rs)) := hT.bring 4
            replace hT : Tot _ _ ([_, _, _, _, _] ++ ([_, _, _] ++ rs)) := hT.bring 4
            replace hT : Tot _ _ ([_, _, _, _, _] ++ ([_, _, _] ++ rs)) := hT.bring 4
            replace hT : Tot _ _ ([_, _, _, _, _] ++ ([_, _, _] ++ rs)) := hT.bring 4
            refine ef_call hf rfl (wanted_none _ _ rfl) rfl rfl (by kernel_rfl) (Spec.frame (L2 := []) (Put5_spec b s _ hB hI (by omega) x.r hT)) rfl (l' := [(82, _), (81, _), (80, _), (77, _), (65, _), (12, _), (11, _), (10, _), (9, _), (5, _), (6, _), (8, _), (7, _), (1, _)]) rfl ?_; rintro a w v L ⟨L1, ⟨s1, d1, e1, q1, X1, Lp, rfl, hD1, hBp, rfl, hR1⟩, rfl⟩ hf hT
            obtain ⟨z0, z1, z2, z3, z4, rfl⟩ := hBp.five
            refine rd hf rfl (yl_move rfl) rfl rfl ?_; intro a hf
            refine rd hf rfl (yl_extract rfl rfl) rfl rfl ?_; intro a hf
            refine rd hf rfl (yl_extract rfl rfl) rfl rfl ?_; intro a hf
            refine rw_ hf rfl (yl_assign rfl) rfl (l' := [(11, _), (85, _), (84, _), (79, _), (83, _), (82, _), (81, _), (80, _), (77, _), (65, _), (12, _), (10, _), (9, _), (5, _), (6, _), (8, _), (7, _), (1, _)]) rfl ?_; intro a hf
            refine rw_ hf rfl (yl_assign rfl) rfl (l' := [(6, _), (11, _), (85, _), (84, _), (79, _), (83, _), (82, _), (81, _), (80, _), (77, _), (65, _), (12, _), (10, _), (9, _), (5, _), (8, _), (7, _), (1, _)]) rfl ?_; intro a hf
            refine plan_nil ?_
            replace hf := hf.sel [6, 11, 10, 9, 5, 7, 1] (l' := [(6, _), (11, _), (10, _), (9, _), (5, _), (7, _), (1, _)]) rfl
            -- region 21 (law.go:105)
            refine wp_reg ([_, _]) ([_, _, _, _, _, _, _] ++ rs) [(0, true), (1, true), (2, true), (3, false), (4, true), (5, true), (6, true), (7, true), (8, true)] mixed (by kernel_rfl) (hT.brings [7, 7]) ?_; intro w hT
            refine rd hf rfl (yl_move rfl) rfl rfl ?_; intro a hf
            refine rd hf rfl (yl_faddr Try.underlying60 rfl rfl sz_31 (k := 1) rfl) rfl rfl ?_; intro a hf
            refine rd hf rfl (yl_loadB Try.underlying31 rfl sz_31 (vs := x.r.cells) (.tail _ (.tail _ (.tail _ (.tail _ (.tail _ (.tail _ (.head _))))))) rfl (pt_self _ _) rfl rfl) rfl rfl ?_; intro a hf
            replace hT : Tot _ _ ([_, _] ++ ([_, _, _, _, _, _, _] ++ rs)) := hT.bring 1
            replace hT : Tot _ _ ([_, _] ++ ([_, _, _, _, _, _, _] ++ rs)) := hT.bring 1
            refine ef_call hf rfl (wanted_none _ _ rfl) rfl rfl (by kernel_rfl) (Spec.frame (L2 := []) (rPut_spec rb s _ hRB hI (by omega) x.r hT)) rfl (l' := [(89, _), (88, _), (87, _), (6, _), (11, _), (10, _), (9, _), (5, _), (7, _), (1, _)]) rfl ?_; rintro a w v L ⟨L1, ⟨s2, d2, e2, q2, X2, Lq, rfl, hD2, hRB2, rfl, hR2⟩, rfl⟩ hf hT
            obtain ⟨rfl, rfl, rfl⟩ := hR2.det hR1
            obtain ⟨lv2, XL2, rfl, hL2⟩ := hRB2
            refine rd hf rfl (yl_move rfl) rfl rfl ?_; intro a hf
            refine rd hf rfl (yl_extract rfl rfl) rfl rfl ?_; intro a hf
            refine rd hf rfl (yl_extract rfl rfl) rfl rfl ?_; intro a hf
            refine rd hf rfl (yl_assign rfl) rfl rfl ?_; intro a hf
            refine rd hf rfl (yl_assign rfl) rfl rfl ?_; intro a hf
            refine plan_nil ?_
            replace hf := hf.sel [8, 12, 6, 11, 9, 5, 7, 1] (l' := [(8, _), (12, _), (6, _), (11, _), (9, _), (5, _), (7, _), (1, _)]) rfl
            exact ⟨(b, s1, e1, q1, q2), _, hf.sel [5, 6, 8, 11, 12, 9, 7, 1] rfl, ⟨hR1.inv hI, by have := hR1.len1 hI; omega, by rw [hR1.time]; exact hti, d1, _, _, _, _, _, _, _, lv2, XL2, hD1, hD2, hBp, hL2, rfl⟩, (hT.brings [9, 3, 3, 9, 9, 9, 9, 9, 8, 9])⟩
          · -- else
            refine wpIn_seq ?_
            -- region 22 (law.go:106)
            refine wp_reg ([]) ([_, _, _, _, _, _, _, _] ++ rs) [(0, true), (1, true)] mixed (by kernel_rfl) (hT) ?_; intro w hT
            refine rd hf rfl (yl_cmp rfl rfl rfl) rfl rfl ?_; intro a hf
            refine rd hf rfl (yl_assign rfl) rfl rfl ?_; intro a hf
            refine plan_nil ?_
            refine wp_ifd hf rfl (fun hk93 => ?_) (fun hk93 => ?_)
            · -- then
              refine wpIn_seq ?_
              -- region 23 (law.go:107)
              refine wp_reg ([_, _, _, _, _]) ([_, _, _] ++ rs) [(0, true), (1, true), (2, true), (3, true), (4, true), (5, true), (6, true), (7, false), (8, true), (9, true), (10, true), (11, true), (12, true)] mixed (by kernel_rfl) (hT.brings [4, 4, 4, 4, 4]) ?_; intro w hT
              refine rd hf rfl (yl_move rfl) rfl rfl ?_; intro a hf
              refine rd hf rfl (yl_faddr Try.underlying60 rfl rfl sz_2 (k := 6) rfl) rfl rfl ?_; intro a hf
              refine rd hf rfl (yl_load Try.underlying2 rfl rfl ⟨_, .tail _ (.tail _ (.head _)), _, _, _, pt_self _ _, rfl⟩) rfl rfl ?_; intro a hf
              refine rd hf rfl (yl_faddr Try.underlying60 rfl rfl sz_2 (k := 7) rfl) rfl rfl ?_; intro a hf
              refine rd hf rfl (yl_load Try.underlying2 rfl rfl ⟨_, .tail _ (.tail _ (.head _)), _, _, _, pt_self _ _, rfl⟩) rfl rfl ?_; intro a hf
              refine rd hf rfl (yl_faddr Try.underlying60 rfl rfl sz_2 (k := 8) rfl) rfl rfl ?_; intro a hf
              refine rd hf rfl (yl_load Try.underlying2 rfl rfl ⟨_, .tail _ (.tail _ (.head _)), _, _, _, pt_self _ _, rfl⟩) rfl rfl ?_; intro a hf
              replace hT : Tot _ _ ([_, _, _, _, _] ++ ([_, _, _] ++ rs)) := hT.bring 4
              replace hT : Tot _ _ ([_, _, _, _, _] ++ ([_, _, _] ++ rs)) := hT.bring 4
              replace hT : Tot _ _ ([_, _, _, _, _] ++ ([_, _, _] ++ rs)) := hT.bring 4
              replace hT : Tot _ _ ([_, _, _, _, _] ++ ([_, _, _] ++ rs)) := hT.bring 4
              replace hT : Tot _ _ ([_, _, _, _, _] ++ ([_, _, _] ++ rs)) := hT.bring 4
              refine ef_call hf rfl (wanted_none _ _ rfl) rfl rfl (by kernel_rfl) (Spec.frame (L2 := []) (Burst5_spec b s _ hB hI (by omega) hti x.n x.t x.wt hT)) rfl (l' := [(102, _), (101, _), (100, _), (99, _), (98, _), (97, _), (96, _), (93, _), (94, _), (77, _), (65, _), (12, _), (11, _), (10, _), (9, _), (5, _), (6, _), (8, _), (7, _), (1, _)]) rfl ?_; rintro a w v L ⟨L1, ⟨s1, d1, e1, q1, X1, Lp, rfl, hD1, hBp, rfl, hR1⟩, rfl⟩ hf hT
              obtain ⟨z0, z1, z2, z3, z4, rfl⟩ := hBp.five
              refine rd hf rfl (yl_move rfl) rfl rfl ?_; intro a hf
              refine rd hf rfl (yl_extract rfl rfl) rfl rfl ?_; intro a hf
              refine rd hf rfl (yl_extract rfl rfl) rfl rfl ?_; intro a hf
              refine rw_ hf rfl (yl_assign rfl) rfl (l' := [(11, _), (105, _), (104, _), (95, _), (103, _), (102, _), (101, _), (100, _), (99, _), (98, _), (97, _), (96, _), (93, _), (94, _), (77, _), (65, _), (12, _), (10, _), (9, _), (5, _), (6, _), (8, _), (7, _), (1, _)]) rfl ?_; intro a hf
              refine rw_ hf rfl (yl_assign rfl) rfl (l' := [(6, _), (11, _), (105, _), (104, _), (95, _), (103, _), (102, _), (101, _), (100, _), (99, _), (98, _), (97, _), (96, _), (93, _), (94, _), (77, _), (65, _), (12, _), (10, _), (9, _), (5, _), (8, _), (7, _), (1, _)]) rfl ?_; intro a hf
              refine plan_nil ?_
              replace hf := hf.sel [6, 11, 10, 9, 5, 7, 1] (l' := [(6, _), (11, _), (10, _), (9, _), (5, _), (7, _), (1, _)]) rfl
              -- region 24 (law.go:108)
              refine wp_reg ([_, _]) ([_, _, _, _, _, _, _] ++ rs) [(0, true), (1, true), (2, true), (3, true), (4, true), (5, true), (6, true), (7, false), (8, true), (9, true), (10, true), (11, true), (12, true)] mixed (by kernel_rfl) (hT.brings [7, 7]) ?_; intro w hT
              refine rd hf rfl (yl_move rfl) rfl rfl ?_; intro a hf
              refine rd hf rfl (yl_faddr Try.underlying60 rfl rfl sz_2 (k := 6) rfl) rfl rfl ?_; intro a hf
              refine rd hf rfl (yl_load Try.underlying2 rfl rfl ⟨_, .tail _ (.tail _ (.tail _ (.tail _ (.tail _ (.tail _ (.head _)))))), _, _, _, pt_self _ _, rfl⟩) rfl rfl ?_; intro a hf
              refine rd hf rfl (yl_faddr Try.underlying60 rfl rfl sz_2 (k := 7) rfl) rfl rfl ?_; intro a hf
              refine rd hf rfl (yl_load Try.underlying2 rfl rfl ⟨_, .tail _ (.tail _ (.tail _ (.tail _ (.tail _ (.tail _ (.head _)))))), _, _, _, pt_self _ _, rfl⟩) rfl rfl ?_; intro a hf
              refine rd hf rfl (yl_faddr Try.underlying60 rfl rfl sz_2 (k := 8) rfl) rfl rfl ?_; intro a hf
              refine rd hf rfl (yl_load Try.underlying2 rfl rfl ⟨_, .tail _ (.tail _ (.tail _ (.tail _ (.tail _ (.tail _ (.head _)))))), _, _, _, pt_self _ _, rfl⟩) rfl rfl ?_; intro a hf
              replace hT : Tot _ _ ([_, _] ++ ([_, _, _, _, _, _, _] ++ rs)) := hT.bring 1
              replace hT : Tot _ _ ([_, _] ++ ([_, _, _, _, _, _, _] ++ rs)) := hT.bring 1
              refine ef_call hf rfl (wanted_none _ _ rfl) rfl rfl (by kernel_rfl) (Spec.frame (L2 := []) (rBurst_spec rb s _ hRB hI (by omega) hti x.n x.t x.wt hT)) rfl (l' := [(113, _), (112, _), (111, _), (110, _), (109, _), (108, _), (107, _), (6, _), (11, _), (10, _), (9, _), (5, _), (7, _), (1, _)]) rfl ?_; rintro a w v L ⟨L1, ⟨s2, d2, e2, q2, X2, Lq, rfl, hD2, hRB2, rfl, hR2⟩, rfl⟩ hf hT
              obtain ⟨rfl, rfl, rfl⟩ := BurRes.det hR2 hR1
              obtain ⟨lv2, XL2, rfl, hL2⟩ := hRB2
              obtain ⟨hk1, hk2, hk3⟩ := BurRes.keep hR1 hI hti
              refine rd hf rfl (yl_move rfl) rfl rfl ?_; intro a hf
              refine rd hf rfl (yl_extract rfl rfl) rfl rfl ?_; intro a hf
              refine rd hf rfl (yl_extract rfl rfl) rfl rfl ?_; intro a hf
              refine rd hf rfl (yl_assign rfl) rfl rfl ?_; intro a hf
              refine rd hf rfl (yl_assign rfl) rfl rfl ?_; intro a hf
              refine plan_nil ?_
              replace hf := hf.sel [8, 12, 6, 11, 9, 5, 7, 1] (l' := [(8, _), (12, _), (6, _), (11, _), (9, _), (5, _), (7, _), (1, _)]) rfl
              exact ⟨(b, s1, e1, q1, q2), _, hf.sel [5, 6, 8, 11, 12, 9, 7, 1] rfl, ⟨hk1, by omega, hk3, d1, _, _, _, _, _, _, _, lv2, XL2, hD1, hD2, hBp, hL2, rfl⟩, (hT.brings [9, 3, 3, 9, 9, 9, 9, 9, 8, 9])⟩
            · -- else
              refine wpIn_seq ?_
              -- region 25 (law.go:109)
              refine wp_reg ([]) ([_, _, _, _, _, _, _, _] ++ rs) [(0, true), (1, true)] mixed (by kernel_rfl) (hT) ?_; intro w hT
              refine rd hf rfl (yl_cmp rfl rfl rfl) rfl rfl ?_; intro a hf
              refine rd hf rfl (yl_assign rfl) rfl rfl ?_; intro a hf
              refine plan_nil ?_
              replace hf := hf.sel [117, 12, 11, 10, 9, 5, 6, 8, 7, 1] (l' := [(117, _), (12, _), (11, _), (10, _), (9, _), (5, _), (6, _), (8, _), (7, _), (1, _)]) rfl
              refine wp_ifd hf rfl (fun hk117 => ?_) (fun hk117 => ?_)
              · -- then
                refine wpIn_seq ?_
                -- region 26 (law.go:110)
                refine wp_reg ([_, _, _, _, _]) ([_, _, _] ++ rs) [(0, true), (1, true), (2, true), (3, false), (4, true), (5, true), (6, true), (7, true), (8, true)] mixed (by kernel_rfl) (hT.brings [4, 4, 4, 4, 4]) ?_; intro w hT
                refine rd hf rfl (yl_move rfl) rfl rfl ?_; intro a hf
                refine rd hf rfl (yl_faddr Try.underlying60 rfl rfl sz_58 (k := 9) rfl) rfl rfl ?_; intro a hf
                refine rd hf rfl (yl_load Try.underlying58 rfl rfl ⟨_, .tail _ (.tail _ (.head _)), _, _, _, pt_self _ _, rfl⟩) rfl rfl ?_; intro a hf
                replace hT : Tot _ _ ([_, _, _, _, _] ++ ([_, _, _] ++ rs)) := hT.bring 4
                replace hT : Tot _ _ ([_, _, _, _, _] ++ ([_, _, _] ++ rs)) := hT.bring 4
                replace hT : Tot _ _ ([_, _, _, _, _] ++ ([_, _, _] ++ rs)) := hT.bring 4
                replace hT : Tot _ _ ([_, _, _, _, _] ++ ([_, _, _] ++ rs)) := hT.bring 4
                replace hT : Tot _ _ ([_, _, _, _, _] ++ ([_, _, _] ++ rs)) := hT.bring 4
                refine ef_call hf rfl (wanted_none _ _ rfl) rfl rfl (by kernel_rfl) (Spec.frame (L2 := []) (Ack_spec b s _ hB hI (by omega) S x.sv hES.app hT)) rfl (l' := [(122, _), (121, _), (120, _), (117, _), (12, _), (11, _), (10, _), (9, _), (5, _), (6, _), (8, _), (7, _), (1, _)]) rfl ?_; rintro a w v L ⟨L1, ⟨s1, n1, Lp, rfl, hBp, rfl, hR1⟩, rfl⟩ hf hT
                obtain ⟨z0, z1, z2, z3, z4, rfl⟩ := hBp.five
                refine rd hf rfl (yl_move rfl) rfl rfl ?_; intro a hf
                refine rd hf rfl (yl_extract rfl rfl) rfl rfl ?_; intro a hf
                refine rd hf rfl (yl_extract rfl rfl) rfl rfl ?_; intro a hf
                refine rd hf rfl (yl_assign rfl) rfl rfl ?_; intro a hf
                refine rd hf rfl (yl_assign rfl) rfl rfl ?_; intro a hf
                refine plan_nil ?_
                replace hf := hf.sel [14, 13, 12, 11, 10, 9, 5, 6, 8, 7, 1] (l' := [(14, _), (13, _), (12, _), (11, _), (10, _), (9, _), (5, _), (6, _), (8, _), (7, _), (1, _)]) rfl
                refine wpIn_seq ?_
                -- region 27 (law.go:111)
                refine wp_reg ([_, _]) ([_, _, _, _, _, _] ++ rs) [(0, true), (1, true), (2, true), (3, false), (4, true), (5, true), (6, true), (7, true), (8, true)] mixed (by kernel_rfl) (hT.brings [6, 6]) ?_; intro w hT
                refine rd hf rfl (yl_move rfl) rfl rfl ?_; intro a hf
                refine rd hf rfl (yl_faddr Try.underlying60 rfl rfl sz_58 (k := 9) rfl) rfl rfl ?_; intro a hf
                refine rd hf rfl (yl_load Try.underlying58 rfl rfl ⟨_, .tail _ (.tail _ (.tail _ (.tail _ (.tail _ (.head _))))), _, _, _, pt_self _ _, rfl⟩) rfl rfl ?_; intro a hf
                replace hT : Tot _ _ ([_, _] ++ ([_, _, _, _, _, _] ++ rs)) := hT.bring 1
                replace hT : Tot _ _ ([_, _] ++ ([_, _, _, _, _, _] ++ rs)) := hT.bring 1
                refine ef_call hf rfl (wanted_none _ _ rfl) rfl rfl (by kernel_rfl) (Spec.frame (L2 := []) (rAck_spec rb s _ hRB (by omega) S x.sv hES.app.app hT)) rfl (l' := [(129, _), (128, _), (127, _), (14, _), (13, _), (12, _), (11, _), (10, _), (9, _), (5, _), (6, _), (8, _), (7, _), (1, _)]) rfl ?_; rintro a w v L ⟨L1, ⟨s2, n2, Lq, rfl, hRB2, rfl, hR2⟩, rfl⟩ hf hT
                obtain ⟨rfl, rfl⟩ := hR2.det hR1
                obtain ⟨lv2, XL2, rfl, hL2⟩ := hRB2
                obtain ⟨hk1, hk2, hk3⟩ := hR1.keep hI
                have hnn : decide (n1 ≠ n1) = false := by simp
                refine rd hf rfl (yl_move rfl) rfl rfl ?_; intro a hf
                refine rd hf rfl (yl_extract rfl rfl) rfl rfl ?_; intro a hf
                refine rd hf rfl (yl_extract rfl rfl) rfl rfl ?_; intro a hf
                refine rd hf rfl (yl_assign rfl) rfl rfl ?_; intro a hf
                refine rd hf rfl (yl_assign rfl) rfl rfl ?_; intro a hf
                refine plan_nil ?_
                replace hf := hf.sel [16, 15, 14, 13, 12, 11, 9, 5, 6, 8, 7, 1] (l' := [(16, _), (15, _), (14, _), (13, _), (12, _), (11, _), (9, _), (5, _), (6, _), (8, _), (7, _), (1, _)]) rfl
                refine wpIn_seq ?_
                -- region 28 (law.go:112)
                refine wp_reg ([]) ([_, _, _, _, _, _, _, _] ++ rs) [(0, true), (1, true), (2, true), (3, true), (4, true), (5, true), (6, true), (7, true)] mixed (by kernel_rfl) (hT) ?_; intro w hT
                refine rd hf rfl (yl_move rfl) rfl rfl ?_; intro a hf
                refine rd hf rfl (yl_move rfl) rfl rfl ?_; intro a hf
                refine rd hf rfl (yl_cmp rfl rfl rfl) rfl rfl ?_; intro a hf
                refine rd hf rfl (yl_move rfl) rfl rfl ?_; intro a hf
                refine rdT hf rfl rfl rfl rfl (by first | exact hnn | simp [hnn]) (yl_move rfl) rfl (l' := [(137, _), (136, _), (135, _), (134, _), (133, _), (16, _), (15, _), (14, _), (13, _), (12, _), (11, _), (9, _), (5, _), (6, _), (8, _), (7, _), (1, _)]) rfl ?_; intro a hf
                refine rdT hf rfl rfl rfl rfl (by first | exact hnn | simp [hnn]) (yl_move rfl) rfl (l' := [(138, _), (137, _), (136, _), (135, _), (134, _), (133, _), (16, _), (15, _), (14, _), (13, _), (12, _), (11, _), (9, _), (5, _), (6, _), (8, _), (7, _), (1, _)]) rfl ?_; intro a hf
                refine rdT hf rfl rfl rfl rfl (by first | exact hnn | simp [hnn]) (yl_cmp rfl rfl rfl) rfl (l' := [(139, _), (138, _), (137, _), (136, _), (135, _), (134, _), (133, _), (16, _), (15, _), (14, _), (13, _), (12, _), (11, _), (9, _), (5, _), (6, _), (8, _), (7, _), (1, _)]) rfl ?_; intro a hf
                refine rd hf rfl (yl_pickFF rfl hnn rfl) rfl rfl ?_; intro a hf
                refine plan_nil ?_
                replace hf := hf.sel [140, 12, 11, 9, 5, 6, 8, 7, 1] (l' := [(140, _), (12, _), (11, _), (9, _), (5, _), (6, _), (8, _), (7, _), (1, _)]) rfl
                refine wp_ifd hf rfl (fun hbad => ?_) (fun hbad => ?_)
                · -- then
                  exact absurd rfl hbad
                · -- else
                  refine wpIn_skip ?_
                  replace hT := hT.emp.emp
                  exact ⟨(b, s1, er, .slice none 0 0, .slice none 0 0), _, hf.sel [5, 6, 8, 11, 12, 9, 7, 1] rfl, ⟨hk1, by omega, by rw [hk3]; exact hti, [], _, _, _, _, _, _, _, lv2, XL2, sl_nil, sl_nil, hBp, hL2, rfl⟩, (hT.brings [9, 4, 4, 9, 9, 9, 9, 9, 9, 9])⟩
              · -- else
                refine wpIn_seq ?_
                -- region 15 (law.go:117)
                refine wp_reg ([]) ([_, _, _, _, _, _, _, _] ++ rs) [(0, true), (1, false), (2, true)] mixed (by kernel_rfl) (hT) ?_; intro w hT
                refine rd hf rfl (yl_move rfl) rfl rfl ?_; intro a hf
                refine ef_call hf rfl (wanted_none _ _ rfl) rfl rfl (by kernel_rfl) (Spec.frame (L2 := []) (Copy_spec b s (hB.inn (fun x hx => by rcases mem5 hx with rfl | rfl | rfl | rfl | rfl; exact .head _; exact .tail _ (.head _); exact .tail _ (.tail _ (.head _)); exact .tail _ (.tail _ (.tail _ (.head _))); exact .tail _ (.tail _ (.tail _ (.tail _ (.head _)))))) (by omega) hT)) rfl (l' := [(66, _), (117, _), (12, _), (11, _), (10, _), (9, _), (5, _), (6, _), (8, _), (7, _), (1, _)]) rfl ?_; rintro a w v L ⟨L1, ⟨b', rfl, hBc⟩, rfl⟩ hf hT
                obtain ⟨c0, c1, c2, c3, c4, rfl⟩ := hBc.five
                refine rd hf rfl (yl_assign rfl) rfl rfl ?_; intro a hf
                refine plan_nil ?_
                replace hf := hf.sel [17, 12, 11, 10, 9, 5, 6, 8, 7, 1] (l' := [(17, _), (12, _), (11, _), (10, _), (9, _), (5, _), (6, _), (8, _), (7, _), (1, _)]) rfl
                refine wpIn_seq ?_
                -- region 16 (law.go:118)
                refine wp_reg ([_, _, _, _, _]) ([_, _, _, _, _, _, _, _] ++ rs) [(0, true), (1, true), (2, true), (3, false)] mixed (by kernel_rfl) (hT.brings [9, 9, 9, 9, 9]) ?_; intro w hT
                refine rd hf rfl (yl_move rfl) rfl rfl ?_; intro a hf
                refine rd hf rfl (yl_faddr Try.underlying60 rfl rfl sz_31 (k := 1) rfl) rfl rfl ?_; intro a hf
                refine rd hf rfl (yl_loadB Try.underlying31 rfl sz_31 (vs := x.r.cells) (.tail _ (.tail _ (.tail _ (.tail _ (.tail _ (.tail _ (.tail _ (.head _)))))))) rfl (pt_self _ _) rfl rfl) rfl rfl ?_; intro a hf
                replace hT : Tot _ _ ([_, _, _, _, _] ++ ([_, _, _, _, _, _, _, _] ++ rs)) := hT.bring 4
                replace hT : Tot _ _ ([_, _, _, _, _] ++ ([_, _, _, _, _, _, _, _] ++ rs)) := hT.bring 4
                replace hT : Tot _ _ ([_, _, _, _, _] ++ ([_, _, _, _, _, _, _, _] ++ rs)) := hT.bring 4
                replace hT : Tot _ _ ([_, _, _, _, _] ++ ([_, _, _, _, _, _, _, _] ++ rs)) := hT.bring 4
                replace hT : Tot _ _ ([_, _, _, _, _] ++ ([_, _, _, _, _, _, _, _] ++ rs)) := hT.bring 4
                refine ef_call hf rfl (wanted_none _ _ rfl) rfl rfl (by kernel_rfl) (Spec.frame (L2 := []) (Put5_spec b s _ hB hI (by omega) x.r hT)) rfl (l' := [(70, _), (69, _), (68, _), (17, _), (12, _), (11, _), (10, _), (9, _), (5, _), (6, _), (8, _), (7, _), (1, _)]) rfl ?_; rintro a w v L ⟨L1, ⟨so, d1, e1, q1, X1, Lp, rfl, hD1, hBp, rfl, hRo⟩, rfl⟩ hf hT
                have hIo := hRo.inv hI
                have hlo := hRo.len (by omega)
                obtain ⟨z0, z1, z2, z3, z4, rfl⟩ := hBp.five
                refine plan_nil ?_
                replace hf := hf.sel [17, 12, 11, 9, 5, 6, 8, 7, 1] (l' := [(17, _), (12, _), (11, _), (9, _), (5, _), (6, _), (8, _), (7, _), (1, _)]) rfl
                refine wpIn_seq ?_
                -- region 17 (law.go:119)
                refine wp_reg ([_, _, _, _, _]) ([_, _, _, _, _, _, _, _, _] ++ rs) [(0, true), (1, true), (2, false), (3, false)] mixed (by kernel_rfl) (hT.brings [5, 5, 5, 5, 5]) ?_; intro w hT
                refine rd hf rfl (yl_move rfl) rfl rfl ?_; intro a hf
                refine rd hf rfl (yl_build rfl Try.underlying65 zr_65 (places := [(0, 1), (1, 1)]) (by kernel_rfl) (by kernel_rfl) (out := (Sp.mk 0 1073741824).cells) rfl) rfl rfl ?_; intro a hf
                refine ef hf hT rfl rfl (ef_buildSlice (E := encSp) (xs := [⟨0, 1073741824⟩]) rfl rfl Try.underlying58 zs_65 rfl (by decide) rfl (by decide)) rfl (l' := [(73, _), (72, _), (17, _), (12, _), (11, _), (9, _), (5, _), (6, _), (8, _), (7, _), (1, _)]) rfl ?_; rintro a w one L ⟨b2, p1, hvp1, hp1, rfl⟩ hf hT
                replace hT : Tot _ _ ([_, _, _, _, _, _] ++ ([_, _, _, _, _, _, _, _, _] ++ rs)) := hT.bring 5
                replace hT : Tot _ _ ([_, _, _, _, _, _] ++ ([_, _, _, _, _, _, _, _, _] ++ rs)) := hT.bring 5
                replace hT : Tot _ _ ([_, _, _, _, _, _] ++ ([_, _, _, _, _, _, _, _, _] ++ rs)) := hT.bring 5
                replace hT : Tot _ _ ([_, _, _, _, _, _] ++ ([_, _, _, _, _, _, _, _, _] ++ rs)) := hT.bring 5
                replace hT : Tot _ _ ([_, _, _, _, _, _] ++ ([_, _, _, _, _, _, _, _, _] ++ rs)) := hT.bring 5
                refine ef_call hf rfl (wanted_none _ _ rfl) rfl rfl (by kernel_rfl) (Spec.frame (L2 := [_]) (Ack_spec b so _ hBp hIo (by omega) [⟨0, 1073741824⟩] one (hp1.els (.head _)) hT)) rfl (l' := [(74, _), (73, _), (72, _), (17, _), (12, _), (11, _), (9, _), (5, _), (6, _), (8, _), (7, _), (1, _)]) rfl ?_; rintro a w v L ⟨L1, ⟨s9, n9, L9, rfl, hB9, rfl, -⟩, rfl⟩ hf hT
                obtain ⟨o0, o1, o2, o3, o4, rfl⟩ := hB9.five
                refine plan_nil ?_
                replace hf := hf.sel [17, 12, 11, 9, 6, 8, 7, 1] (l' := [(17, _), (12, _), (11, _), (9, _), (6, _), (8, _), (7, _), (1, _)]) rfl
                -- region 18 (law.go:120)
                refine wp_reg ([]) ([_, _, _, _, _, _, _, _, _, _, _, _, _, _, _] ++ rs) [(0, true), (1, true)] mixed (by kernel_rfl) (hT) ?_; intro w hT
                refine rd hf rfl (yl_move rfl) rfl rfl ?_; intro a hf
                refine rd hf rfl (yl_assign rfl) rfl rfl ?_; intro a hf
                refine plan_nil ?_
                replace hT := hT.emp.emp
                exact ⟨(b', s, er, .slice none 0 0, .slice none 0 0), _, hf.sel [5, 6, 8, 11, 12, 9, 7, 1] rfl, ⟨hI, by omega, hti, [], _, _, _, _, _, _, _, lv, XL, sl_nil, sl_nil, hBc, hL, rfl⟩, (hT.brings [8, 8, 8, 8, 8, 8, 8]).tail.tail.tail.tail.tail.tail.tail⟩
        · clear hf0 hf hT; rintro ⟨b', s', er', q1, q2⟩ a w L hf ⟨hI2, hli2, hti2, d, X1, X2, u0, u1, u2, u3, u4, lv', XL', hD1, hD2, hB2, hL2, rfl⟩ hT
          replace hf : Fr _ [(5, .pointer (some ⟨b', 0, none⟩)), (6, .int .i64 er'), (8, .int .i64 er'), (11, q1), (12, q2), (9, _), (7, _), (1, _)] _ _ := hf
          have hRB2 : RB rb s'.cap s'.time s'.L [_, _] := ⟨lv', XL', rfl, hL2⟩
          have hee : decide (er' ≠ er') = false := by simp
          refine wpIn_seq ?_
          -- region 30 (law.go:122)
          refine wp_reg ([]) ([_, _, _, _, _, _, _, _, _, _] ++ rs) [(0, true), (1, true), (2, true), (3, true), (4, true), (5, false), (6, true), (7, true), (8, true), (9, true), (10, true), (11, true), (12, true), (13, true), (14, true), (16, true), (17, true), (18, true), (19, true), (15, false), (20, false), (21, true), (22, true), (23, true), (24, true), (26, true), (25, false), (27, false), (28, true), (29, true)] mixed (by kernel_rfl) (hT) ?_; intro w hT
          refine rd hf rfl (yl_move rfl) rfl rfl ?_; intro a hf
          refine rd hf rfl (yl_ptrNil rfl rfl Try.underlying25 rfl) rfl rfl ?_; intro a hf
          refine rd hf rfl (yl_move rfl) rfl rfl ?_; intro a hf
          refine rdT hf rfl rfl rfl rfl (rfl) (yl_move rfl) rfl (l' := [(144, _), (143, _), (142, _), (141, _), (5, _), (6, _), (8, _), (11, _), (12, _), (9, _), (7, _), (1, _)]) rfl ?_; intro a hf
          refine rdT hf rfl rfl rfl rfl (rfl) (yl_move rfl) rfl (l' := [(145, _), (144, _), (143, _), (142, _), (141, _), (5, _), (6, _), (8, _), (11, _), (12, _), (9, _), (7, _), (1, _)]) rfl ?_; intro a hf
          refine ef_call hf rfl (by rw [wanted_some hf rfl rfl rfl rfl]; first | rfl | simp | decide) rfl rfl (by kernel_rfl) (Spec.frame (L2 := []) (longs_spec d q1 q2 (hD1.els (.head _)) (hD2.els (.tail _ (.head _))) hT)) rfl (l' := [(145, _), (144, _), (143, _), (142, _), (141, _), (5, _), (6, _), (8, _), (11, _), (12, _), (9, _), (7, _), (1, _)]) rfl ?_; rintro a w v L ⟨L1, ⟨rfl, rfl⟩, rfl⟩ hf hT
          refine rdT hf rfl rfl rfl rfl (rfl) (yl_not rfl) rfl (l' := [(147, _), (146, _), (145, _), (144, _), (143, _), (142, _), (141, _), (5, _), (6, _), (8, _), (11, _), (12, _), (9, _), (7, _), (1, _)]) rfl ?_; intro a hf
          refine rd hf rfl (yl_pickFF rfl rfl rfl) rfl rfl ?_; intro a hf
          refine rd hf rfl (yl_move rfl) rfl rfl ?_; intro a hf
          refine rdT hf rfl rfl rfl rfl (rfl) (yl_move rfl) rfl (l' := [(150, _), (149, _), (148, _), (147, _), (146, _), (145, _), (144, _), (143, _), (142, _), (141, _), (5, _), (6, _), (8, _), (11, _), (12, _), (9, _), (7, _), (1, _)]) rfl ?_; intro a hf
          refine rdT hf rfl rfl rfl rfl (rfl) (yl_move rfl) rfl (l' := [(151, _), (150, _), (149, _), (148, _), (147, _), (146, _), (145, _), (144, _), (143, _), (142, _), (141, _), (5, _), (6, _), (8, _), (11, _), (12, _), (9, _), (7, _), (1, _)]) rfl ?_; intro a hf
          refine rdT hf rfl rfl rfl rfl (rfl) (yl_cmp rfl rfl rfl) rfl (l' := [(152, _), (151, _), (150, _), (149, _), (148, _), (147, _), (146, _), (145, _), (144, _), (143, _), (142, _), (141, _), (5, _), (6, _), (8, _), (11, _), (12, _), (9, _), (7, _), (1, _)]) rfl ?_; intro a hf
          refine rd hf rfl (yl_pickFF rfl rfl rfl) rfl rfl ?_; intro a hf
          refine rd hf rfl (yl_move rfl) rfl rfl ?_; intro a hf
          refine rdT hf rfl rfl rfl rfl (by first | exact hee | simp [hee]) (yl_move rfl) rfl (l' := [(155, _), (154, _), (153, _), (152, _), (151, _), (150, _), (149, _), (148, _), (147, _), (146, _), (145, _), (144, _), (143, _), (142, _), (141, _), (5, _), (6, _), (8, _), (11, _), (12, _), (9, _), (7, _), (1, _)]) rfl ?_; intro a hf
          refine rdT hf rfl rfl rfl rfl (by first | exact hee | simp [hee]) (yl_move rfl) rfl (l' := [(157, _), (155, _), (154, _), (153, _), (152, _), (151, _), (150, _), (149, _), (148, _), (147, _), (146, _), (145, _), (144, _), (143, _), (142, _), (141, _), (5, _), (6, _), (8, _), (11, _), (12, _), (9, _), (7, _), (1, _)]) rfl ?_; intro a hf
          refine rdT hf rfl rfl rfl rfl (by first | exact hee | simp [hee]) (yl_nil rfl) rfl (l' := [(158, _), (157, _), (155, _), (154, _), (153, _), (152, _), (151, _), (150, _), (149, _), (148, _), (147, _), (146, _), (145, _), (144, _), (143, _), (142, _), (141, _), (5, _), (6, _), (8, _), (11, _), (12, _), (9, _), (7, _), (1, _)]) rfl ?_; intro a hf
          refine rdT hf rfl rfl rfl rfl (by first | exact hee | simp [hee]) (yl_faddr Try.underlying68 rfl rfl sz_35 (k := 2) rfl) rfl (l' := [(159, _), (158, _), (157, _), (155, _), (154, _), (153, _), (152, _), (151, _), (150, _), (149, _), (148, _), (147, _), (146, _), (145, _), (144, _), (143, _), (142, _), (141, _), (5, _), (6, _), (8, _), (11, _), (12, _), (9, _), (7, _), (1, _)]) rfl ?_; intro a hf
          refine rdT hf rfl rfl rfl rfl (by first | exact hee | simp [hee]) (yl_load Try.underlying35 rfl rfl ⟨_, .tail _ (.tail _ (.tail _ (.tail _ (.tail _ (.tail _ (.tail _ (.head _))))))), _, _, _, pt_self _ _, rfl⟩) rfl (l' := [(160, _), (159, _), (158, _), (157, _), (155, _), (154, _), (153, _), (152, _), (151, _), (150, _), (149, _), (148, _), (147, _), (146, _), (145, _), (144, _), (143, _), (142, _), (141, _), (5, _), (6, _), (8, _), (11, _), (12, _), (9, _), (7, _), (1, _)]) rfl ?_; intro a hf
          refine ef_call hf rfl (by rw [wanted_some hf rfl rfl rfl rfl]; first | exact beqT hee | simp [hee]) rfl rfl (by kernel_rfl) (Spec.frame (L2 := []) (Held_spec b' s' (hB2.inn (fun x hx => by rcases mem5 hx with rfl | rfl | rfl | rfl | rfl; exact .tail _ (.tail _ (.head _)); exact .tail _ (.tail _ (.tail _ (.head _))); exact .tail _ (.tail _ (.tail _ (.tail _ (.head _)))); exact .tail _ (.tail _ (.tail _ (.tail _ (.tail _ (.head _))))); exact .tail _ (.tail _ (.tail _ (.tail _ (.tail _ (.tail _ (.head _)))))))) hI2.nd (by omega) hT)) rfl (l' := [(160, _), (159, _), (158, _), (157, _), (155, _), (154, _), (153, _), (152, _), (151, _), (150, _), (149, _), (148, _), (147, _), (146, _), (145, _), (144, _), (143, _), (142, _), (141, _), (5, _), (6, _), (8, _), (11, _), (12, _), (9, _), (7, _), (1, _)]) rfl ?_; rintro a w hv L ⟨L1, ⟨XH1, hH1, rfl⟩, rfl⟩ hf hT
          refine ef_call hf rfl (by rw [wanted_some hf rfl rfl rfl rfl]; first | exact beqT hee | simp [hee]) rfl rfl (by kernel_rfl) (Spec.frame (L2 := [_]) (heldT_spec s'.L hv lv' (hH1.els (.head _)) (hL2.els (.tail _ (.tail _ (.tail _ (.tail _ (.tail _ (.tail _ (.tail _ (.tail _ (.tail _ (.head _))))))))))) hT)) rfl (l' := [(156, _), (160, _), (159, _), (158, _), (157, _), (155, _), (154, _), (153, _), (152, _), (151, _), (150, _), (149, _), (148, _), (147, _), (146, _), (145, _), (144, _), (143, _), (142, _), (141, _), (5, _), (6, _), (8, _), (11, _), (12, _), (9, _), (7, _), (1, _)]) rfl ?_; rintro a w v L ⟨L1, ⟨rfl, rfl⟩, rfl⟩ hf hT
          refine rdT hf rfl rfl rfl rfl (by first | exact hee | simp [hee]) (yl_not rfl) rfl (l' := [(162, _), (161, _), (156, _), (160, _), (159, _), (158, _), (157, _), (155, _), (154, _), (153, _), (152, _), (151, _), (150, _), (149, _), (148, _), (147, _), (146, _), (145, _), (144, _), (143, _), (142, _), (141, _), (5, _), (6, _), (8, _), (11, _), (12, _), (9, _), (7, _), (1, _)]) rfl ?_; intro a hf
          refine rd hf rfl (yl_pickFF rfl hee rfl) rfl rfl ?_; intro a hf
          refine rd hf rfl (yl_move rfl) rfl rfl ?_; intro a hf
          refine rdT hf rfl rfl rfl rfl (rfl) (yl_move rfl) rfl (l' := [(165, _), (164, _), (163, _), (162, _), (161, _), (156, _), (160, _), (159, _), (158, _), (157, _), (155, _), (154, _), (153, _), (152, _), (151, _), (150, _), (149, _), (148, _), (147, _), (146, _), (145, _), (144, _), (143, _), (142, _), (141, _), (5, _), (6, _), (8, _), (11, _), (12, _), (9, _), (7, _), (1, _)]) rfl ?_; intro a hf
          refine rdT hf rfl rfl rfl rfl (rfl) (yl_move rfl) rfl (l' := [(167, _), (165, _), (164, _), (163, _), (162, _), (161, _), (156, _), (160, _), (159, _), (158, _), (157, _), (155, _), (154, _), (153, _), (152, _), (151, _), (150, _), (149, _), (148, _), (147, _), (146, _), (145, _), (144, _), (143, _), (142, _), (141, _), (5, _), (6, _), (8, _), (11, _), (12, _), (9, _), (7, _), (1, _)]) rfl ?_; intro a hf
          refine ef_call hf rfl (by rw [wanted_some hf rfl rfl rfl rfl]; first | rfl | simp | decide) rfl rfl (by kernel_rfl) (Spec.frame (L2 := [_]) (Used_spec b' s' (hB2.inn (fun x hx => by rcases mem5 hx with rfl | rfl | rfl | rfl | rfl; exact .tail _ (.tail _ (.tail _ (.head _))); exact .tail _ (.tail _ (.tail _ (.tail _ (.head _)))); exact .tail _ (.tail _ (.tail _ (.tail _ (.tail _ (.head _))))); exact .tail _ (.tail _ (.tail _ (.tail _ (.tail _ (.tail _ (.head _)))))); exact .tail _ (.tail _ (.tail _ (.tail _ (.tail _ (.tail _ (.tail _ (.head _))))))))) hT)) rfl (l' := [(167, _), (165, _), (164, _), (163, _), (162, _), (161, _), (156, _), (160, _), (159, _), (158, _), (157, _), (155, _), (154, _), (153, _), (152, _), (151, _), (150, _), (149, _), (148, _), (147, _), (146, _), (145, _), (144, _), (143, _), (142, _), (141, _), (5, _), (6, _), (8, _), (11, _), (12, _), (9, _), (7, _), (1, _)]) rfl ?_; rintro a w v L ⟨L1, ⟨rfl, rfl⟩, rfl⟩ hf hT
          refine ef_call hf rfl (by rw [wanted_some hf rfl rfl rfl rfl]; first | rfl | simp | decide) rfl rfl (by kernel_rfl) (Spec.frame (L2 := [_]) (rUsed_spec rb s'.cap s'.time s'.L (hRB2.inn (fun x hx => by rcases mem2 hx with rfl | rfl; exact .tail _ (.tail _ (.tail _ (.tail _ (.tail _ (.tail _ (.tail _ (.tail _ (.head _)))))))); exact .tail _ (.tail _ (.tail _ (.tail _ (.tail _ (.tail _ (.tail _ (.tail _ (.tail _ (.head _))))))))))) hI2.ok (by omega) hT)) rfl (l' := [(166, _), (167, _), (165, _), (164, _), (163, _), (162, _), (161, _), (156, _), (160, _), (159, _), (158, _), (157, _), (155, _), (154, _), (153, _), (152, _), (151, _), (150, _), (149, _), (148, _), (147, _), (146, _), (145, _), (144, _), (143, _), (142, _), (141, _), (5, _), (6, _), (8, _), (11, _), (12, _), (9, _), (7, _), (1, _)]) rfl ?_; rintro a w v L ⟨L1, ⟨rfl, rfl⟩, rfl⟩ hf hT
          refine rdT hf rfl rfl rfl rfl (rfl) (yl_cmp rfl rfl rfl) rfl (l' := [(169, _), (168, _), (166, _), (167, _), (165, _), (164, _), (163, _), (162, _), (161, _), (156, _), (160, _), (159, _), (158, _), (157, _), (155, _), (154, _), (153, _), (152, _), (151, _), (150, _), (149, _), (148, _), (147, _), (146, _), (145, _), (144, _), (143, _), (142, _), (141, _), (5, _), (6, _), (8, _), (11, _), (12, _), (9, _), (7, _), (1, _)]) rfl ?_; intro a hf
          refine rd hf rfl (yl_pickFF rfl rfl rfl) rfl rfl ?_; intro a hf
          refine plan_nil ?_
          replace hf := hf.sel [170, 5, 6, 8, 9, 7, 1] (l' := [(170, _), (5, _), (6, _), (8, _), (9, _), (7, _), (1, _)]) rfl
          refine wp_ifd hf rfl (fun hov => ?_) (fun hov => ?_)
          · -- then
            exact absurd hI2.us hov
          · -- else
            refine wpIn_skip ?_
            -- region 11 (law.go:99)
            refine wp_reg ([]) ([_, _, _, _, _, _, _, _, _, _, _] ++ rs) [(0, true), (1, true), (2, true)] mixed (by kernel_rfl) (hT) ?_; intro w hT
            refine rd hf rfl (yl_move rfl) rfl rfl ?_; intro a hf
            refine rd hf rfl (yl_add rfl rfl (by unfold inI64; omega)) rfl rfl ?_; intro a hf
            refine rw_ hf rfl (yl_assign rfl) rfl (l' := [(9, _), (58, _), (57, _), (170, _), (5, _), (6, _), (8, _), (7, _), (1, _)]) rfl ?_; intro a hf
            refine plan_nil ?_
            replace hf := hf.sel [9, 5, 6, 8, 7, 1] (l' := [(9, _), (5, _), (6, _), (8, _), (7, _), (1, _)]) rfl
            exact ⟨(i + 1, b', s', er'), _, hf.sel [9, 5, 6, 8, 7, 1] rfl, ⟨⟨hI2, by omega, hti2⟩, by omega, _, _, _, _, _, lv', XL', hB2, hL2, rfl⟩, (hT.brings [10, 3, 3, 3]).tail.tail.tail.tail, by first | omega | (dsimp only; omega)⟩
      · -- else
        refine wpIn_exit ?_
        refine then_exit ?_
        refine then_exit ?_
        refine inBlock_hit ?_
        refine wpIn_seq ?_
        -- region 32 (law.go:126)
        refine wp_reg ([]) ([_, _, _, _, _, _, _] ++ rs) [(0, false), (1, true)] mixed (by kernel_rfl) (hT) ?_; intro w hT
        refine ef_call hf rfl (wanted_none _ _ rfl) rfl rfl (by kernel_rfl) (Spec.frame (L2 := []) (fine_spec hT)) rfl (l' := [(56, _), (9, _), (5, _), (6, _), (8, _), (7, _), (1, _)]) rfl ?_; rintro a w v L ⟨L1, ⟨rfl, rfl⟩, rfl⟩ hf hT
        refine rd hf rfl (yl_assign rfl) rfl rfl ?_; intro a hf
        refine plan_nil ?_
        replace hf := hf.sel [4] (l' := [(4, _)]) rfl
        refine wpIn_ret ?_
        exact body_ret hf (L := []) hT.tail.tail.tail.tail.tail.tail.tail rfl rfl ⟨rfl, rfl⟩
    · skip
      -- region 3 (law.go:91)
      refine wp_reg ([]) ([] ++ rs) [(0, true), (1, false), (2, true), (3, true), (4, true), (5, true), (6, true)] mixed (by kernel_rfl) (hT) ?_; intro w hT
      refine rd hf rfl (yl_move rfl) rfl rfl ?_; intro a hf
      refine ef_call hf rfl (wanted_none _ _ rfl) rfl rfl (by kernel_rfl) (Spec.frame (L2 := []) ((New_spec cap hT).mono (fun v L h => by rw [if_neg hcap] at h; exact h))) rfl (l' := [(22, _), (19, _), (18, _), (4, _), (0, _), (1, _)]) rfl ?_; rintro a w v L ⟨L1, ⟨rfl, rfl⟩, rfl⟩ hf hT
      refine rd hf rfl (yl_move rfl) rfl rfl ?_; intro a hf
      refine rd hf rfl (yl_extract rfl rfl) rfl rfl ?_; intro a hf
      refine rd hf rfl (yl_extract rfl rfl) rfl rfl ?_; intro a hf
      refine rd hf rfl (yl_assign rfl) rfl rfl ?_; intro a hf
      refine rd hf rfl (yl_assign rfl) rfl rfl ?_; intro a hf
      refine plan_nil ?_
      replace hf := hf.sel [6, 5, 0, 1] (l' := [(6, _), (5, _), (0, _), (1, _)]) rfl
      refine wpIn_seq ?_
      -- region 4 (law.go:92)
      refine wp_reg ([]) ([] ++ rs) [(0, true), (1, false), (2, true), (3, true), (4, true), (5, true), (6, true)] mixed (by kernel_rfl) (hT) ?_; intro w hT
      refine rd hf rfl (yl_move rfl) rfl rfl ?_; intro a hf
      refine ef_call hf rfl (wanted_none _ _ rfl) rfl rfl (by kernel_rfl) (Spec.frame (L2 := []) ((rNew_spec cap hT).mono (fun v L h => by rw [if_neg hcap] at h; exact h))) rfl (l' := [(27, _), (6, _), (5, _), (0, _), (1, _)]) rfl ?_; rintro a w v L ⟨L1, ⟨rfl, rfl⟩, rfl⟩ hf hT
      refine rd hf rfl (yl_move rfl) rfl rfl ?_; intro a hf
      refine rd hf rfl (yl_extract rfl rfl) rfl rfl ?_; intro a hf
      refine rd hf rfl (yl_extract rfl rfl) rfl rfl ?_; intro a hf
      refine rd hf rfl (yl_assign rfl) rfl rfl ?_; intro a hf
      refine rd hf rfl (yl_assign rfl) rfl rfl ?_; intro a hf
      refine plan_nil ?_
      replace hf := hf.sel [8, 7, 6, 5, 1] (l' := [(8, _), (7, _), (6, _), (5, _), (1, _)]) rfl
      refine wpIn_seq ?_
      refine wpIn_seq ?_
      -- region 5 (law.go:93)
      refine wp_reg ([]) ([] ++ rs) [(0, true), (1, true), (2, true)] mixed (by kernel_rfl) (hT) ?_; intro w hT
      refine rd hf rfl (yl_move rfl) rfl rfl ?_; intro a hf
      refine rd hf rfl (yl_move rfl) rfl rfl ?_; intro a hf
      refine rd hf rfl (yl_cmp rfl rfl rfl) rfl rfl ?_; intro a hf
      refine plan_nil ?_
      refine wp_ifFF hf rfl (rfl) ?_
      refine wpIn_skip ?_
      refine wpIn_seq ?_
      refine wpIn_seq ?_
      -- region 7 (law.go:96)
      refine wp_reg ([]) ([] ++ rs) [(0, true), (1, true), (2, true), (3, true), (4, true), (5, true), (6, true), (7, true), (8, true), (9, true)] mixed (by kernel_rfl) (hT) ?_; intro w hT
      refine rd hf rfl (yl_move rfl) rfl rfl ?_; intro a hf
      refine rd hf rfl (yl_cmp rfl rfl rfl) rfl rfl ?_; intro a hf
      refine rd hf rfl (yl_move rfl) rfl rfl ?_; intro a hf
      refine rdF hf rfl rfl rfl rfl (rfl) rfl (l' := [(37, _), (36, _), (35, _), (34, _), (33, _), (32, _), (31, _), (8, _), (7, _), (6, _), (5, _), (1, _)]) rfl ?_; intro a hf
      refine rdF hf rfl rfl rfl rfl (rfl) rfl (l' := [(38, _), (37, _), (36, _), (35, _), (34, _), (33, _), (32, _), (31, _), (8, _), (7, _), (6, _), (5, _), (1, _)]) rfl ?_; intro a hf
      refine rd hf rfl (yl_pickTT rfl rfl rfl) rfl rfl ?_; intro a hf
      refine rd hf rfl (yl_move rfl) rfl rfl ?_; intro a hf
      refine rdF hf rfl rfl rfl rfl (rfl) rfl (l' := [(41, _), (40, _), (39, _), (38, _), (37, _), (36, _), (35, _), (34, _), (33, _), (32, _), (31, _), (8, _), (7, _), (6, _), (5, _), (1, _)]) rfl ?_; intro a hf
      refine rdF hf rfl rfl rfl rfl (rfl) rfl (l' := [(42, _), (41, _), (40, _), (39, _), (38, _), (37, _), (36, _), (35, _), (34, _), (33, _), (32, _), (31, _), (8, _), (7, _), (6, _), (5, _), (1, _)]) rfl ?_; intro a hf
      refine rd hf rfl (yl_pickTT rfl rfl rfl) rfl rfl ?_; intro a hf
      refine plan_nil ?_
      replace hf := hf.sel [43, 8, 7, 6, 5, 1] (l' := [(43, _), (8, _), (7, _), (6, _), (5, _), (1, _)]) rfl
      refine wp_ifTT hf rfl (rfl) ?_
      refine wpIn_seq ?_
      -- region 8 (law.go:97)
      refine wp_reg ([]) ([] ++ rs) [(0, true), (1, true), (2, true), (3, true), (4, true), (5, true), (6, true), (7, false), (8, true), (9, true)] mixed (by kernel_rfl) (hT) ?_; intro w hT
      refine rd hf rfl (yl_move rfl) rfl rfl ?_; intro a hf
      refine rd hf rfl (yl_cmp rfl rfl rfl) rfl rfl ?_; intro a hf
      refine rd hf rfl (yl_move rfl) rfl rfl ?_; intro a hf
      refine rdT hf rfl rfl rfl rfl (rfl) (yl_move rfl) rfl (l' := [(47, _), (46, _), (45, _), (44, _), (43, _), (8, _), (7, _), (6, _), (5, _), (1, _)]) rfl ?_; intro a hf
      refine rdT hf rfl rfl rfl rfl (rfl) (yl_ptrNil rfl rfl Try.underlying25 rfl) rfl (l' := [(48, _), (47, _), (46, _), (45, _), (44, _), (43, _), (8, _), (7, _), (6, _), (5, _), (1, _)]) rfl ?_; intro a hf
      refine rd hf rfl (yl_pickTT rfl rfl rfl) rfl rfl ?_; intro a hf
      refine rd hf rfl (yl_move rfl) rfl rfl ?_; intro a hf
      refine ef_call hf rfl (by rw [wanted_some hf rfl rfl rfl rfl]; first | rfl | simp | decide) rfl rfl (by kernel_rfl) (Spec.frame (L2 := []) (fine_spec hT)) rfl (l' := [(50, _), (49, _), (48, _), (47, _), (46, _), (45, _), (44, _), (43, _), (8, _), (7, _), (6, _), (5, _), (1, _)]) rfl ?_; rintro a w v L ⟨L1, ⟨rfl, rfl⟩, rfl⟩ hf hT
      refine rd hf rfl (yl_pickTT rfl rfl rfl) rfl rfl ?_; intro a hf
      refine rd hf rfl (yl_assign rfl) rfl rfl ?_; intro a hf
      refine plan_nil ?_
      replace hf := hf.sel [4] (l' := [(4, _)]) rfl
      refine wpIn_ret ?_
      exact body_ret hf (L := []) hT rfl rfl ⟨rfl, rfl⟩
end Go.Proofs.Ytjhbgciocffihaa
