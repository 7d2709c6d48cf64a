-- written by gen.py out of walks texts of my own
import Derived.Test.YtjhbgciocffihaaB30
set_option linter.unusedVariables false
set_option linter.unusedSimpArgs false
set_option maxHeartbeats 4000000
namespace Go.Proofs.Ytjhbgciocffihaa
theorem eqS (a b : Sp) : EqV Try.prog 2 65 (encS a) (encS b) (decide (a = b)) := by
  rw [show (decide (a = b)) = (decide (a.lo = b.lo) && (decide (a.hi = b.hi) && true)) by obtain ⟨_, _⟩ := a; obtain ⟨_, _⟩ := b; simp [Sp.mk.injEq, Bool.decide_and]]
  refine eqv_struct Try.underlying65 (by kernel_rfl) ?_
  refine eqf_cons (by decide) Try.underlying2 rfl rfl rfl (eqv_int Try.underlying2 0 _ _) ?_
  refine eqf_cons (by decide) Try.underlying2 rfl rfl rfl (eqv_int Try.underlying2 0 _ _) ?_
  exact eqf_nil
theorem BufferTakes_spec {e : Env} {w : World} {rs : List Part} (inp : List Rec) (v1 : Value) (hE : Els encRec rs v1 inp) (c : Int) (hc : 0 ≤ c ∧ c ≤ 255) (hT : Tot e w rs) : Spec Try.prog 6 #[v1, .int .u8 c] e w rs (fun v L => v = .bool true ∧ L = []) := by
  refine spec_body Try.func6 rfl Try.ntmps6 rfl rfl ?_
  intro a hf
  refine wpIn_seq ?_
  -- region 0 (law.go:130)
  refine wp_reg ([]) ([] ++ rs) [(0, true)] mixed (by kernel_rfl) (hT) ?_; intro w hT
  refine rd hf rfl (yl_assign rfl) rfl rfl ?_; intro a hf
  refine plan_nil ?_
  refine wpIn_seq ?_
  refine wpIn_seq ?_
  -- region 1 (law.go:131)
  refine wp_reg ([]) ([] ++ rs) [(0, true), (1, true), (2, true)] mixed (by kernel_rfl) (hT) ?_; intro w hT
  refine rd hf rfl (yl_move rfl) rfl rfl ?_; intro a hf
  refine rd hf rfl (yl_lenE rfl Try.underlying70 hE.app) rfl rfl ?_; intro a hf
  refine rd hf rfl (yl_cmp rfl rfl rfl) rfl rfl ?_; intro a hf
  refine plan_nil ?_
  replace hf := hf.sel [20, 0, 1] (l' := [(20, _), (0, _), (1, _)]) rfl
  refine wp_ifd hf rfl (fun h40 => ?_) (fun h40 => ?_)
  · -- then
    refine wpIn_seq ?_
    -- region 2 (law.go:132)
    refine wp_reg ([]) ([] ++ rs) [(0, false), (1, true)] mixed (by kernel_rfl) (hT) ?_; intro w hT
    refine ef_call hf rfl (wanted_none _ _ rfl) rfl rfl (by kernel_rfl) (Spec.frame (L2 := []) (fine_spec hT)) rfl (l' := [(20, _), (0, _), (1, _)]) rfl ?_; rintro a w v L ⟨L1, ⟨rfl, rfl⟩, rfl⟩ hf hT
    refine rd hf rfl (yl_assign rfl) rfl rfl ?_; intro a hf
    refine plan_nil ?_
    replace hf := hf.sel [4] (l' := [(4, _)]) rfl
    refine wpIn_ret ?_
    exact body_ret hf (L := []) hT rfl rfl ⟨rfl, rfl⟩
  · -- else
    refine wpIn_skip ?_
    refine wpIn_seq ?_
    -- region 3 (law.go:134)
    refine wp_reg ([]) ([] ++ rs) [(0, false), (1, true)] mixed (by kernel_rfl) (hT) ?_; intro w hT
    refine ef_call hf rfl (wanted_none _ _ rfl) rfl rfl (by kernel_rfl) (Spec.frame (L2 := []) (NewInbox_spec hT)) rfl (l' := [(20, _), (0, _), (1, _)]) rfl ?_; rintro a w v L ⟨L1, ⟨b, rfl, hB0⟩, rfl⟩ hf hT
    obtain ⟨y0, y1, rfl⟩ := hB0.two
    refine rd hf rfl (yl_assign rfl) rfl rfl ?_; intro a hf
    refine plan_nil ?_
    refine wpIn_seq ?_
    -- region 4 (law.go:135)
    refine wp_reg ([]) ([_, _] ++ rs) [(0, true), (1, false), (2, true)] mixed (by kernel_rfl) (hT) ?_; intro w hT
    refine rd hf rfl (yl_build rfl Try.underlying75 zr_75 (places := [(0, 1)]) (by kernel_rfl) (by kernel_rfl) (out := [.slice none 0 0]) rfl) rfl rfl ?_; intro a hf
    refine ef hf hT rfl rfl (ef_box rfl) rfl (l' := [(23, _), (5, _), (22, _), (20, _), (0, _), (1, _)]) rfl ?_; rintro a w v L ⟨b1, rfl, rfl⟩ hf hT
    refine rd hf rfl (yl_assign rfl) rfl rfl ?_; intro a hf
    refine plan_nil ?_
    replace hf := hf.sel [6, 5, 0, 1] (l' := [(6, _), (5, _), (0, _), (1, _)]) rfl
    refine wpIn_seq ?_
    refine wpIn_seq ?_
    -- region 5 (law.go:136)
    refine wp_reg ([]) ([_, _, _] ++ rs) [(0, true)] mixed (by kernel_rfl) (hT) ?_; intro w hT
    refine rd hf rfl (yl_assign rfl) rfl rfl ?_; intro a hf
    refine plan_nil ?_
    refine wpIn_block ?_
    have hlen0 := hE.len_le
    replace hT := hT.emp
    replace hT := hT.bring 1
    replace hT := hT.bring 3
    replace hT := hT.bring 3
    refine wp_loopS (σ := Nat × Nat × List Rec) (fun (i, b, xs) => [(7, .int .i64 (i : Nat)), (5, .pointer (some ⟨b, 0, none⟩))]) [(6, _), (0, _), (1, _)] (fun (i, b, xs) L => Inb xs ∧ i ≤ inp.length ∧ ∃ y0 y1 lv XL, InR b xs [y0, y1] ∧ Sl encRec 31 lv xs XL ∧ L = [y0, y1, pt b1 (.cells #[lv] 75), XL]) (fun (i, b, xs) => inp.length - i) (0, b, []) (L := [_, _, _, _]) (R := [] ++ rs) (hf.sel [7, 5, 6, 0, 1] rfl) (⟨inb_nil, Nat.zero_le _, _, _, _, _, hB0, sl_nil, rfl⟩) hT ?_
    clear hf hT; rintro ⟨i, b, xs⟩ a w L hf ⟨hI, hi, y0, y1, lv, XL, hB, hL, rfl⟩ hT
    replace hf : Fr _ [(7, .int .i64 (i : Nat)), (5, .pointer (some ⟨b, 0, none⟩)), (6, _), (0, _), (1, _)] _ _ := hf
    have hRI : RI b1 xs [_, _] := ⟨lv, XL, rfl, hL⟩
    refine wpIn_seq ?_
    refine wpIn_seq ?_
    -- region 6 (law.go:136)
    refine wp_reg ([]) ([_, _, _, _] ++ rs) [(0, true), (1, true), (2, true), (3, true)] mixed (by kernel_rfl) (hT) ?_; intro w hT
    refine rd hf rfl (yl_move rfl) rfl rfl ?_; intro a hf
    refine rd hf rfl (yl_move rfl) rfl rfl ?_; intro a hf
    refine rd hf rfl (yl_lenE rfl Try.underlying70 hE.app) rfl rfl ?_; intro a hf
    refine rd hf rfl (yl_cmp rfl rfl rfl) rfl rfl ?_; intro a hf
    refine plan_nil ?_
    replace hf := hf.sel [28, 7, 5, 6, 0, 1] (l' := [(28, _), (7, _), (5, _), (6, _), (0, _), (1, _)]) rfl
    refine wp_ifd hf rfl (fun hlt => ?_) (fun hlt => ?_)
    · -- then
      have hltk : i < inp.length := by omega
      have hj : inp[i]? = some inp[i] := List.getElem?_eq_getElem hltk
      generalize inp[i] = r at hj
      refine wpIn_skip ?_
      refine wpIn_seq ?_
      refine wpIn_block ?_
      refine wpIn_seq ?_
      refine wpIn_seq ?_
      -- region 8 (law.go:137)
      refine wp_reg ([]) ([_, _, _, _] ++ rs) [(0, true), (1, true)] mixed (by kernel_rfl) (hT) ?_; intro w hT
      refine rd hf rfl (yl_move rfl) rfl rfl ?_; intro a hf
      refine rd hf rfl (yl_ptrNil rfl rfl Try.underlying71 rfl) rfl rfl ?_; intro a hf
      refine plan_nil ?_
      refine wp_ifFF hf rfl (rfl) ?_
      refine wpIn_skip ?_
      refine wpIn_seq ?_
      refine wpIn_seq ?_
      -- region 10 (law.go:140)
      refine wp_reg ([]) ([_, _, _, _] ++ rs) [(0, true), (1, true), (2, true), (3, true), (4, true)] mixed (by kernel_rfl) (hT) ?_; intro w hT
      refine rd hf rfl (yl_move rfl) rfl rfl ?_; intro a hf
      refine rd hf rfl (yl_move rfl) rfl rfl ?_; intro a hf
      refine rd hf rfl (yl_conv64 rfl Try.underlying5 Try.underlying3 (by unfold inI64; omega)) rfl rfl ?_; intro a hf
      refine rd hf rfl (yl_rem rfl rfl (by omega) (by omega)) rfl rfl ?_; intro a hf
      refine rd hf rfl (yl_cmp rfl rfl rfl) rfl rfl ?_; intro a hf
      refine plan_nil ?_
      replace hf := hf.sel [37, 7, 5, 6, 0, 1] (l' := [(37, _), (7, _), (5, _), (6, _), (0, _), (1, _)]) rfl
      replace hT := hT.bring 1
      replace hT := hT.bring 1
      have hf0 := hf.sel [7, 6, 0, 1] (l' := [(7, _), (6, _), (0, _), (1, _)]) rfl
      refine wp_cut (σ := Nat) (L0 := [_, _]) (R := [_, _] ++ rs) hf0 hT (fun b' => [(5, .pointer (some ⟨b', 0, none⟩))]) (fun b' L => ∃ y0 y1, InR b' xs [y0, y1] ∧ L = [y0, y1]) ?_ ?_
      · clear hf0
        refine wp_ifd hf rfl (fun hcp => ?_) (fun hcp => ?_)
        · -- then
          refine wpIn_seq ?_
          -- region 11 (law.go:141)
          refine wp_reg ([]) ([_, _, _, _] ++ rs) [(0, true), (1, false), (2, true)] mixed (by kernel_rfl) (hT) ?_; intro w hT
          refine rd hf rfl (yl_move rfl) rfl rfl ?_; intro a hf
          refine ef_call hf rfl (wanted_none _ _ rfl) rfl rfl (by kernel_rfl) (Spec.frame (L2 := []) (ICopy_spec b xs (hB.inn (fun x hx => by rcases mem2 hx with rfl | rfl; exact .head _; exact .tail _ (.head _))) hT)) rfl (l' := [(38, _), (37, _), (7, _), (5, _), (6, _), (0, _), (1, _)]) rfl ?_; rintro a w v L ⟨L1, ⟨b', rfl, hBc⟩, rfl⟩ hf hT
          obtain ⟨c0, c1, rfl⟩ := hBc.two
          refine rd hf rfl (yl_assign rfl) rfl rfl ?_; intro a hf
          refine plan_nil ?_
          replace hf := hf.sel [8, 7, 5, 6, 0, 1] (l' := [(8, _), (7, _), (5, _), (6, _), (0, _), (1, _)]) rfl
          refine wpIn_seq ?_
          -- region 12 (law.go:142)
          refine wp_reg ([_, _]) ([_, _, _, _] ++ rs) [(0, true), (1, true), (2, false)] mixed (by kernel_rfl) (hT.brings [3, 3]) ?_; intro w hT
          refine rd hf rfl (yl_move rfl) rfl rfl ?_; intro a hf
          refine rd hf rfl (yl_build rfl Try.underlying31 zr_31 (places := [(0, 1), (1, 1), (2, 1), (3, 1), (4, 1)]) (by kernel_rfl) (by kernel_rfl) (out := (Rec.mk 7 0 0 1 1).cells) rfl) rfl rfl ?_; intro a hf
          replace hT : Tot _ _ ([_, _] ++ ([_, _, _, _] ++ rs)) := hT.bring 1
          replace hT : Tot _ _ ([_, _] ++ ([_, _, _, _] ++ rs)) := hT.bring 1
          refine ef_call hf rfl (wanted_none _ _ rfl) rfl rfl (by kernel_rfl) (Spec.frame (L2 := []) (Take_spec b xs _ hB hI ⟨7, 0, 0, 1, 1⟩ hT)) rfl (l' := [(41, _), (40, _), (8, _), (7, _), (5, _), (6, _), (0, _), (1, _)]) rfl ?_; rintro a w v L ⟨L1, ⟨xo, oo, eo, Lo, rfl, hBo, rfl, hRo⟩, rfl⟩ hf hT
          obtain ⟨o0, o1, rfl⟩ := hBo.two
          refine plan_nil ?_
          replace hf := hf.sel [8, 7, 6, 0, 1] (l' := [(8, _), (7, _), (6, _), (0, _), (1, _)]) rfl
          refine wpIn_seq ?_
          -- region 13 (law.go:143)
          refine wp_reg ([]) ([_, _, _, _, _, _] ++ rs) [(0, true), (1, true)] mixed (by kernel_rfl) (hT) ?_; intro w hT
          refine rd hf rfl (yl_move rfl) rfl rfl ?_; intro a hf
          refine rd hf rfl (yl_assign rfl) rfl rfl ?_; intro a hf
          refine plan_nil ?_
          refine wpIn_seq ?_
          -- region 14 (law.go:144)
          refine wp_reg ([]) ([_, _, _, _, _, _] ++ rs) [(0, true), (1, true)] mixed (by kernel_rfl) (hT) ?_; intro w hT
          refine rd hf rfl (yl_move rfl) rfl rfl ?_; intro a hf
          refine rd hf rfl (yl_ptrNil rfl rfl Try.underlying71 rfl) rfl rfl ?_; intro a hf
          refine plan_nil ?_
          replace hf := hf.sel [45, 5, 7, 6, 0, 1] (l' := [(45, _), (5, _), (7, _), (6, _), (0, _), (1, _)]) rfl
          refine wp_ifFF hf rfl (rfl) ?_
          refine wpIn_skip ?_
          exact ⟨b', _, hf.sel [5, 7, 6, 0, 1] rfl, ⟨_, _, hBc, rfl⟩, (hT.brings [1, 1]).tail.tail⟩
        · -- else
          refine wpIn_skip ?_
          exact ⟨b, _, hf.sel [5, 7, 6, 0, 1] rfl, ⟨_, _, hB, rfl⟩, hT⟩
      · clear hf0 hf hT; rintro b' a w L hf ⟨u0, u1, hBn, rfl⟩ hT
        replace hf : Fr _ [(5, .pointer (some ⟨b', 0, none⟩)), (7, _), (6, _), (0, _), (1, _)] _ _ := hf
        refine wpIn_seq ?_
        -- region 16 (law.go:148)
        refine wp_reg ([_, _]) ([_, _] ++ rs) [(0, true), (1, true), (2, true), (3, true), (4, true), (5, false), (6, true), (7, true), (8, true), (9, true), (10, true)] mixed (by kernel_rfl) (hT.brings [1, 1]) ?_; intro w hT
        refine rd hf rfl (yl_move rfl) rfl rfl ?_; intro a hf
        refine rd hf rfl (yl_move rfl) rfl rfl ?_; intro a hf
        refine rd hf rfl (yl_move rfl) rfl rfl ?_; intro a hf
        refine rd hf rfl (yl_indexE rfl rfl Try.underlying70 sz_31 hE.app (by omega) (by omega)) rfl rfl ?_; intro a hf
        refine rd hf rfl (yl_loadA Try.underlying31 rfl sz_31 rfl (hE.app.row hj) rfl) rfl rfl ?_; intro a hf
        replace hT : Tot _ _ ([_, _] ++ ([_, _] ++ rs)) := hT.bring 1
        replace hT : Tot _ _ ([_, _] ++ ([_, _] ++ rs)) := hT.bring 1
        refine ef_call hf rfl (wanted_none _ _ rfl) rfl rfl (by kernel_rfl) (Spec.frame (L2 := []) (Take_spec b' xs _ hBn hI r hT)) rfl (l' := [(51, _), (50, _), (49, _), (48, _), (47, _), (5, _), (7, _), (6, _), (0, _), (1, _)]) rfl ?_; rintro a w v L ⟨L1, ⟨xs', ok1, er1, Lp, rfl, hB2, rfl, hR1⟩, rfl⟩ hf hT
        obtain ⟨j0, j1, rfl⟩ := hB2.two
        have hI2 := hR1.inb hI
        refine rd hf rfl (yl_move rfl) rfl rfl ?_; intro a hf
        refine rd hf rfl (yl_extract rfl rfl) rfl rfl ?_; intro a hf
        refine rd hf rfl (yl_extract rfl rfl) rfl rfl ?_; intro a hf
        refine rd hf rfl (yl_assign rfl) rfl rfl ?_; intro a hf
        refine rd hf rfl (yl_assign rfl) rfl rfl ?_; intro a hf
        refine plan_nil ?_
        replace hf := hf.sel [10, 9, 5, 7, 6, 0, 1] (l' := [(10, _), (9, _), (5, _), (7, _), (6, _), (0, _), (1, _)]) rfl
        refine wpIn_seq ?_
        -- region 17 (law.go:149)
        refine wp_reg ([_, _]) ([_, _] ++ rs) [(0, true), (1, true), (2, true), (3, true), (4, true), (5, false), (6, true), (7, true), (8, true), (9, true), (10, true)] mixed (by kernel_rfl) (hT.brings [3, 3]) ?_; intro w hT
        refine rd hf rfl (yl_move rfl) rfl rfl ?_; intro a hf
        refine rd hf rfl (yl_move rfl) rfl rfl ?_; intro a hf
        refine rd hf rfl (yl_move rfl) rfl rfl ?_; intro a hf
        refine rd hf rfl (yl_indexE rfl rfl Try.underlying70 sz_31 hE.app (by omega) (by omega)) rfl rfl ?_; intro a hf
        refine rd hf rfl (yl_loadA Try.underlying31 rfl sz_31 rfl (hE.app.row hj) rfl) rfl rfl ?_; intro a hf
        replace hT : Tot _ _ ([_, _] ++ ([_, _] ++ rs)) := hT.bring 1
        replace hT : Tot _ _ ([_, _] ++ ([_, _] ++ rs)) := hT.bring 1
        refine ef_call hf rfl (wanted_none _ _ rfl) rfl rfl (by kernel_rfl) (Spec.frame (L2 := []) (rTake_spec b1 xs _ hRI hI r hT)) rfl (l' := [(60, _), (59, _), (58, _), (57, _), (56, _), (10, _), (9, _), (5, _), (7, _), (6, _), (0, _), (1, _)]) rfl ?_; rintro a w v L ⟨L1, ⟨xs2, ok2, er2, Lq, rfl, hRI2, rfl, hR2⟩, rfl⟩ hf hT
        obtain ⟨rfl, rfl, rfl⟩ := hR1.det hR2
        obtain ⟨lv2, XL2, rfl, hL2⟩ := hRI2
        have hRI3 : RI b1 xs' [_, _] := ⟨lv2, XL2, rfl, hL2⟩
        have hlen2 := hI2.len
        have hrl : (rids xs').length = xs'.length := by simp [rids]
        have hrnl := runs_len (rids xs')
        have hbb : (!(ok1 == ok1)) = false := by simp
        have hee : decide (er1 ≠ er1) = false := by simp
        refine rd hf rfl (yl_move rfl) rfl rfl ?_; intro a hf
        refine rd hf rfl (yl_extract rfl rfl) rfl rfl ?_; intro a hf
        refine rd hf rfl (yl_extract rfl rfl) rfl rfl ?_; intro a hf
        refine rd hf rfl (yl_assign rfl) rfl rfl ?_; intro a hf
        refine rd hf rfl (yl_assign rfl) rfl rfl ?_; intro a hf
        refine plan_nil ?_
        replace hf := hf.sel [12, 11, 10, 9, 5, 7, 6, 0, 1] (l' := [(12, _), (11, _), (10, _), (9, _), (5, _), (7, _), (6, _), (0, _), (1, _)]) rfl
        refine wpIn_seq ?_
        -- region 18 (law.go:150)
        refine wp_reg ([]) ([_, _, _, _] ++ rs) [(0, true), (1, false), (2, true), (3, false), (4, true), (5, true)] mixed (by kernel_rfl) (hT) ?_; intro w hT
        refine rd hf rfl (yl_move rfl) rfl rfl ?_; intro a hf
        refine ef_call hf rfl (wanted_none _ _ rfl) rfl rfl (by kernel_rfl) (Spec.frame (L2 := []) (Acks_spec b' xs' (hB2.inn (fun x hx => by rcases mem2 hx with rfl | rfl; exact .tail _ (.tail _ (.head _)); exact .tail _ (.tail _ (.tail _ (.head _))))) hI2 hT)) rfl (l' := [(64, _), (12, _), (11, _), (10, _), (9, _), (5, _), (7, _), (6, _), (0, _), (1, _)]) rfl ?_; rintro a w av L ⟨L1, ⟨XA, hA, rfl⟩, rfl⟩ hf hT
        refine rd hf rfl (yl_move rfl) rfl rfl ?_; intro a hf
        refine ef_call hf rfl (wanted_none _ _ rfl) rfl rfl (by kernel_rfl) (Spec.frame (L2 := [_]) (rAcks_spec b1 xs' (hRI3.inn (fun x hx => by rcases mem2 hx with rfl | rfl; exact .tail _ (.head _); exact .tail _ (.tail _ (.head _)))) hI2 hT)) rfl (l' := [(66, _), (65, _), (64, _), (12, _), (11, _), (10, _), (9, _), (5, _), (7, _), (6, _), (0, _), (1, _)]) rfl ?_; rintro a w bv L ⟨L1, ⟨XB, hA2, rfl⟩, rfl⟩ hf hT
        refine rd hf rfl (yl_assign rfl) rfl rfl ?_; intro a hf
        refine rd hf rfl (yl_assign rfl) rfl rfl ?_; intro a hf
        refine plan_nil ?_
        replace hf := hf.sel [14, 13, 12, 11, 10, 9, 5, 7, 6, 0, 1] (l' := [(14, _), (13, _), (12, _), (11, _), (10, _), (9, _), (5, _), (7, _), (6, _), (0, _), (1, _)]) rfl
        refine wpIn_seq ?_
        -- region 19 (law.go:151)
        refine wp_reg ([]) ([_, _, _, _, _, _] ++ rs) [(0, true), (1, false), (2, true)] mixed (by kernel_rfl) (hT) ?_; intro w hT
        refine rd hf rfl (yl_move rfl) rfl rfl ?_; intro a hf
        refine ef_call hf rfl (wanted_none _ _ rfl) rfl rfl (by kernel_rfl) (Spec.frame (L2 := []) (Records_spec b' xs' (hB2.inn (fun x hx => by rcases mem2 hx with rfl | rfl; exact .tail _ (.tail _ (.tail _ (.tail _ (.head _)))); exact .tail _ (.tail _ (.tail _ (.tail _ (.tail _ (.head _))))))) hI2.srt hlen2 hT)) rfl (l' := [(68, _), (14, _), (13, _), (12, _), (11, _), (10, _), (9, _), (5, _), (7, _), (6, _), (0, _), (1, _)]) rfl ?_; rintro a w rv L ⟨L1, ⟨XR, hRc, rfl⟩, rfl⟩ hf hT
        refine rd hf rfl (yl_assign rfl) rfl rfl ?_; intro a hf
        refine plan_nil ?_
        refine wpIn_seq ?_
        refine wpIn_seq ?_
        have hll : decide (((runs (rids xs')).length : Int) ≠ ((runs (rids xs')).length : Nat)) = false := by simp
        -- region 20 (law.go:152)
        refine wp_reg ([]) ([_, _, _, _, _, _, _] ++ rs) [(0, true), (1, true), (2, true), (3, true), (4, true), (5, true), (6, true), (7, true), (8, true), (9, true), (10, true), (11, true), (12, true), (13, true), (14, true), (15, true), (16, true), (17, true), (18, true), (19, true), (20, true), (21, true), (22, true), (23, true), (24, true)] mixed (by kernel_rfl) (hT) ?_; intro w hT
        refine rd hf rfl (yl_move rfl) rfl rfl ?_; intro a hf
        refine rd hf rfl (yl_move rfl) rfl rfl ?_; intro a hf
        refine rd hf rfl (yl_boolEq rfl rfl Try.underlying4 rfl) rfl rfl ?_; intro a hf
        refine rd hf rfl (yl_move rfl) rfl rfl ?_; intro a hf
        refine rdT hf rfl rfl rfl rfl (by first | exact hbb | simp [hbb]) (yl_move rfl) rfl (l' := [(74, _), (73, _), (72, _), (71, _), (70, _), (15, _), (69, _), (68, _), (14, _), (13, _), (12, _), (11, _), (10, _), (9, _), (5, _), (7, _), (6, _), (0, _), (1, _)]) rfl ?_; intro a hf
        refine rdT hf rfl rfl rfl rfl (by first | exact hbb | simp [hbb]) (yl_move rfl) rfl (l' := [(75, _), (74, _), (73, _), (72, _), (71, _), (70, _), (15, _), (69, _), (68, _), (14, _), (13, _), (12, _), (11, _), (10, _), (9, _), (5, _), (7, _), (6, _), (0, _), (1, _)]) rfl ?_; intro a hf
        refine rdT hf rfl rfl rfl rfl (by first | exact hbb | simp [hbb]) (yl_cmp rfl rfl rfl) rfl (l' := [(76, _), (75, _), (74, _), (73, _), (72, _), (71, _), (70, _), (15, _), (69, _), (68, _), (14, _), (13, _), (12, _), (11, _), (10, _), (9, _), (5, _), (7, _), (6, _), (0, _), (1, _)]) rfl ?_; intro a hf
        refine rd hf rfl (yl_pickFF rfl hbb rfl) rfl rfl ?_; intro a hf
        refine rd hf rfl (yl_move rfl) rfl rfl ?_; intro a hf
        refine rdT hf rfl rfl rfl rfl (by first | exact hee | simp [hee]) (yl_move rfl) rfl (l' := [(79, _), (78, _), (77, _), (76, _), (75, _), (74, _), (73, _), (72, _), (71, _), (70, _), (15, _), (69, _), (68, _), (14, _), (13, _), (12, _), (11, _), (10, _), (9, _), (5, _), (7, _), (6, _), (0, _), (1, _)]) rfl ?_; intro a hf
        refine rdT hf rfl rfl rfl rfl (by first | exact hee | simp [hee]) (yl_lenE rfl Try.underlying58 (hA.els (.tail _ (.tail _ (.head _))))) rfl (l' := [(80, _), (79, _), (78, _), (77, _), (76, _), (75, _), (74, _), (73, _), (72, _), (71, _), (70, _), (15, _), (69, _), (68, _), (14, _), (13, _), (12, _), (11, _), (10, _), (9, _), (5, _), (7, _), (6, _), (0, _), (1, _)]) rfl ?_; intro a hf
        refine rdT hf rfl rfl rfl rfl (by first | exact hee | simp [hee]) (yl_move rfl) rfl (l' := [(81, _), (80, _), (79, _), (78, _), (77, _), (76, _), (75, _), (74, _), (73, _), (72, _), (71, _), (70, _), (15, _), (69, _), (68, _), (14, _), (13, _), (12, _), (11, _), (10, _), (9, _), (5, _), (7, _), (6, _), (0, _), (1, _)]) rfl ?_; intro a hf
        refine rdT hf rfl rfl rfl rfl (by first | exact hee | simp [hee]) (yl_lenE rfl Try.underlying58 (hA2.els (.tail _ (.head _)))) rfl (l' := [(82, _), (81, _), (80, _), (79, _), (78, _), (77, _), (76, _), (75, _), (74, _), (73, _), (72, _), (71, _), (70, _), (15, _), (69, _), (68, _), (14, _), (13, _), (12, _), (11, _), (10, _), (9, _), (5, _), (7, _), (6, _), (0, _), (1, _)]) rfl ?_; intro a hf
        refine rdT hf rfl rfl rfl rfl (by first | exact hee | simp [hee]) (yl_cmp rfl rfl rfl) rfl (l' := [(83, _), (82, _), (81, _), (80, _), (79, _), (78, _), (77, _), (76, _), (75, _), (74, _), (73, _), (72, _), (71, _), (70, _), (15, _), (69, _), (68, _), (14, _), (13, _), (12, _), (11, _), (10, _), (9, _), (5, _), (7, _), (6, _), (0, _), (1, _)]) rfl ?_; intro a hf
        refine rd hf rfl (yl_pickFF rfl hee rfl) rfl rfl ?_; intro a hf
        refine rd hf rfl (yl_move rfl) rfl rfl ?_; intro a hf
        refine rdT hf rfl rfl rfl rfl (by first | exact hll | simp [hll]) (yl_move rfl) rfl (l' := [(86, _), (85, _), (84, _), (83, _), (82, _), (81, _), (80, _), (79, _), (78, _), (77, _), (76, _), (75, _), (74, _), (73, _), (72, _), (71, _), (70, _), (15, _), (69, _), (68, _), (14, _), (13, _), (12, _), (11, _), (10, _), (9, _), (5, _), (7, _), (6, _), (0, _), (1, _)]) rfl ?_; intro a hf
        refine rdT hf rfl rfl rfl rfl (by first | exact hll | simp [hll]) (yl_lenE rfl Try.underlying70 (hRc.els (.head _))) rfl (l' := [(87, _), (86, _), (85, _), (84, _), (83, _), (82, _), (81, _), (80, _), (79, _), (78, _), (77, _), (76, _), (75, _), (74, _), (73, _), (72, _), (71, _), (70, _), (15, _), (69, _), (68, _), (14, _), (13, _), (12, _), (11, _), (10, _), (9, _), (5, _), (7, _), (6, _), (0, _), (1, _)]) rfl ?_; intro a hf
        refine rdT hf rfl rfl rfl rfl (by first | exact hll | simp [hll]) (yl_move rfl) rfl (l' := [(88, _), (87, _), (86, _), (85, _), (84, _), (83, _), (82, _), (81, _), (80, _), (79, _), (78, _), (77, _), (76, _), (75, _), (74, _), (73, _), (72, _), (71, _), (70, _), (15, _), (69, _), (68, _), (14, _), (13, _), (12, _), (11, _), (10, _), (9, _), (5, _), (7, _), (6, _), (0, _), (1, _)]) rfl ?_; intro a hf
        refine rdT hf rfl rfl rfl rfl (by first | exact hll | simp [hll]) (yl_nil rfl) rfl (l' := [(89, _), (88, _), (87, _), (86, _), (85, _), (84, _), (83, _), (82, _), (81, _), (80, _), (79, _), (78, _), (77, _), (76, _), (75, _), (74, _), (73, _), (72, _), (71, _), (70, _), (15, _), (69, _), (68, _), (14, _), (13, _), (12, _), (11, _), (10, _), (9, _), (5, _), (7, _), (6, _), (0, _), (1, _)]) rfl ?_; intro a hf
        refine rdT hf rfl rfl rfl rfl (by first | exact hll | simp [hll]) (yl_faddr Try.underlying75 rfl rfl sz_70 (k := 0) rfl) rfl (l' := [(90, _), (89, _), (88, _), (87, _), (86, _), (85, _), (84, _), (83, _), (82, _), (81, _), (80, _), (79, _), (78, _), (77, _), (76, _), (75, _), (74, _), (73, _), (72, _), (71, _), (70, _), (15, _), (69, _), (68, _), (14, _), (13, _), (12, _), (11, _), (10, _), (9, _), (5, _), (7, _), (6, _), (0, _), (1, _)]) rfl ?_; intro a hf
        refine rdT hf rfl rfl rfl rfl (by first | exact hll | simp [hll]) (yl_load Try.underlying70 rfl rfl ⟨_, .tail _ (.tail _ (.tail _ (.head _))), _, _, _, pt_self _ _, rfl⟩) rfl (l' := [(91, _), (90, _), (89, _), (88, _), (87, _), (86, _), (85, _), (84, _), (83, _), (82, _), (81, _), (80, _), (79, _), (78, _), (77, _), (76, _), (75, _), (74, _), (73, _), (72, _), (71, _), (70, _), (15, _), (69, _), (68, _), (14, _), (13, _), (12, _), (11, _), (10, _), (9, _), (5, _), (7, _), (6, _), (0, _), (1, _)]) rfl ?_; intro a hf
        refine rdT hf rfl rfl rfl rfl (by first | exact hll | simp [hll]) (yl_lenE rfl Try.underlying70 (hL2.els (.tail _ (.tail _ (.tail _ (.tail _ (.head _))))))) rfl (l' := [(92, _), (91, _), (90, _), (89, _), (88, _), (87, _), (86, _), (85, _), (84, _), (83, _), (82, _), (81, _), (80, _), (79, _), (78, _), (77, _), (76, _), (75, _), (74, _), (73, _), (72, _), (71, _), (70, _), (15, _), (69, _), (68, _), (14, _), (13, _), (12, _), (11, _), (10, _), (9, _), (5, _), (7, _), (6, _), (0, _), (1, _)]) rfl ?_; intro a hf
        refine rdT hf rfl rfl rfl rfl (by first | exact hll | simp [hll]) (yl_cmp rfl rfl rfl) rfl (l' := [(93, _), (92, _), (91, _), (90, _), (89, _), (88, _), (87, _), (86, _), (85, _), (84, _), (83, _), (82, _), (81, _), (80, _), (79, _), (78, _), (77, _), (76, _), (75, _), (74, _), (73, _), (72, _), (71, _), (70, _), (15, _), (69, _), (68, _), (14, _), (13, _), (12, _), (11, _), (10, _), (9, _), (5, _), (7, _), (6, _), (0, _), (1, _)]) rfl ?_; intro a hf
        refine rd hf rfl (yl_pickFF rfl hll rfl) rfl rfl ?_; intro a hf
        refine plan_nil ?_
        replace hf := hf.sel [94, 15, 14, 13, 5, 7, 6, 0, 1] (l' := [(94, _), (15, _), (14, _), (13, _), (5, _), (7, _), (6, _), (0, _), (1, _)]) rfl
        refine wp_ifd hf rfl (fun hbad => ?_) (fun hbad => ?_)
        · -- then
          exact absurd rfl hbad
        · -- else
          refine wpIn_skip ?_
          refine wpIn_seq ?_
          refine wpIn_seq ?_
          -- region 22 (law.go:155)
          refine wp_reg ([]) ([_, _, _, _, _, _, _] ++ rs) [(0, true)] mixed (by kernel_rfl) (hT) ?_; intro w hT
          refine rd hf rfl (yl_assign rfl) rfl rfl ?_; intro a hf
          refine plan_nil ?_
          refine wpIn_block ?_
          refine wp_loopS (σ := Nat) (fun k => [(16, .int .i64 (k : Nat))]) [(15, _), (14, _), (13, _), (5, _), (7, _), (6, _), (0, _), (1, _)] (fun k L => L = [] ∧ k ≤ (runs (rids xs')).length) (fun k => (runs (rids xs')).length - k) 0 (L := []) (R := [_, _, _, _, _, _, _] ++ rs) (hf.sel [16, 15, 14, 13, 5, 7, 6, 0, 1] rfl) (⟨rfl, Nat.zero_le _⟩) hT ?_
          clear hf hT; rintro k a w L hf ⟨rfl, hk⟩ hT
          replace hf : Fr _ [(16, .int .i64 (k : Nat)), (15, _), (14, _), (13, _), (5, _), (7, _), (6, _), (0, _), (1, _)] _ _ := hf
          refine wpIn_seq ?_
          refine wpIn_seq ?_
          -- region 23 (law.go:155)
          refine wp_reg ([]) ([_, _, _, _, _, _, _] ++ rs) [(0, true), (1, true), (2, true), (3, true)] mixed (by kernel_rfl) (hT) ?_; intro w hT
          refine rd hf rfl (yl_move rfl) rfl rfl ?_; intro a hf
          refine rd hf rfl (yl_move rfl) rfl rfl ?_; intro a hf
          refine rd hf rfl (yl_lenE rfl Try.underlying58 (hA.els (.tail _ (.tail _ (.head _))))) rfl rfl ?_; intro a hf
          refine rd hf rfl (yl_cmp rfl rfl rfl) rfl rfl ?_; intro a hf
          refine plan_nil ?_
          replace hf := hf.sel [98, 16, 15, 14, 13, 5, 7, 6, 0, 1] (l' := [(98, _), (16, _), (15, _), (14, _), (13, _), (5, _), (7, _), (6, _), (0, _), (1, _)]) rfl
          refine wp_ifd hf rfl (fun hlk => ?_) (fun hlk => ?_)
          · -- then
            have hltr : k < (runs (rids xs')).length := by omega
            have hj : (runs (rids xs'))[k]? = some (runs (rids xs'))[k] := List.getElem?_eq_getElem hltr
            generalize (runs (rids xs'))[k] = sp at hj
            refine wpIn_skip ?_
            refine wpIn_seq ?_
            refine wpIn_block ?_
            refine wpIn_seq ?_
            -- region 25 (law.go:156)
            refine wp_reg ([]) ([_, _, _, _, _, _, _] ++ rs) [(0, true), (1, true), (2, true), (3, true), (4, true), (5, true), (6, true), (7, true), (8, true)] mixed (by kernel_rfl) (hT) ?_; intro w hT
            refine rd hf rfl (yl_move rfl) rfl rfl ?_; intro a hf
            refine rd hf rfl (yl_move rfl) rfl rfl ?_; intro a hf
            refine rd hf rfl (yl_indexE rfl rfl Try.underlying58 sz_65 (hA.els (.tail _ (.tail _ (.head _)))) (by omega) (by omega)) rfl rfl ?_; intro a hf
            refine rd hf rfl (yl_loadA Try.underlying65 rfl sz_65 rfl ((hA.els (.tail _ (.tail _ (.head _)))).row hj) rfl) rfl rfl ?_; intro a hf
            refine rd hf rfl (yl_move rfl) rfl rfl ?_; intro a hf
            refine rd hf rfl (yl_move rfl) rfl rfl ?_; intro a hf
            refine rd hf rfl (yl_indexE rfl rfl Try.underlying58 sz_65 (hA2.els (.tail _ (.head _))) (by omega) (by omega)) rfl rfl ?_; intro a hf
            refine rd hf rfl (yl_loadA Try.underlying65 rfl sz_65 rfl ((hA2.els (.tail _ (.head _))).row hj) rfl) rfl rfl ?_; intro a hf
            refine rd hf rfl (yl_aggEq (k := 2) rfl rfl (by kernel_rfl) (by decide) (eqS sp sp) rfl) rfl rfl ?_; intro a hf
            refine plan_nil ?_
            replace hf := hf.sel [109, 16, 15, 14, 13, 5, 7, 6, 0, 1] (l' := [(109, _), (16, _), (15, _), (14, _), (13, _), (5, _), (7, _), (6, _), (0, _), (1, _)]) rfl
            refine wp_if hf rfl (fun hd => ?_) (fun hd => ?_)
            · -- then
              simp at hd
            · -- else
              refine wpIn_skip ?_
              -- region 24 (law.go:155)
              refine wp_reg ([]) ([_, _, _, _, _, _, _] ++ rs) [(0, true), (1, true), (2, true)] mixed (by kernel_rfl) (hT) ?_; intro w hT
              refine rd hf rfl (yl_move rfl) rfl rfl ?_; intro a hf
              refine rd hf rfl (yl_add rfl rfl (by unfold inI64; omega)) rfl rfl ?_; intro a hf
              refine rw_ hf rfl (yl_assign rfl) rfl (l' := [(16, _), (100, _), (99, _), (109, _), (15, _), (14, _), (13, _), (5, _), (7, _), (6, _), (0, _), (1, _)]) rfl ?_; intro a hf
              refine plan_nil ?_
              replace hf := hf.sel [16, 15, 14, 13, 5, 7, 6, 0, 1] (l' := [(16, _), (15, _), (14, _), (13, _), (5, _), (7, _), (6, _), (0, _), (1, _)]) rfl
              exact ⟨k + 1, _, hf.sel [16, 15, 14, 13, 5, 7, 6, 0, 1] rfl, ⟨rfl, by omega⟩, hT, by first | omega | (dsimp only; omega)⟩
          · -- else
            refine wpIn_exit ?_
            refine then_exit ?_
            refine then_exit ?_
            refine inBlock_hit ?_
            refine wpIn_seq ?_
            -- region 27 (law.go:160)
            refine wp_reg ([]) ([_, _, _, _, _, _, _] ++ rs) [(0, true)] mixed (by kernel_rfl) (hT) ?_; intro w hT
            refine rd hf rfl (yl_assign rfl) rfl rfl ?_; intro a hf
            refine plan_nil ?_
            replace hf := hf.sel [17, 15, 5, 7, 6, 0, 1] (l' := [(17, _), (15, _), (5, _), (7, _), (6, _), (0, _), (1, _)]) rfl
            refine wpIn_block ?_
            refine wp_loopS (σ := Nat) (fun k => [(17, .int .i64 (k : Nat))]) [(15, _), (5, _), (7, _), (6, _), (0, _), (1, _)] (fun k L => L = [] ∧ k ≤ xs'.length) (fun k => xs'.length - k) 0 (L := []) (R := [_, _, _, _, _, _, _] ++ rs) (hf.sel [17, 15, 5, 7, 6, 0, 1] rfl) (⟨rfl, Nat.zero_le _⟩) hT ?_
            clear hf hT; rintro k a w L hf ⟨rfl, hk⟩ hT
            replace hf : Fr _ [(17, .int .i64 (k : Nat)), (15, _), (5, _), (7, _), (6, _), (0, _), (1, _)] _ _ := hf
            refine wpIn_seq ?_
            refine wpIn_seq ?_
            -- region 28 (law.go:160)
            refine wp_reg ([]) ([_, _, _, _, _, _, _] ++ rs) [(0, true), (1, true), (2, true), (3, true)] mixed (by kernel_rfl) (hT) ?_; intro w hT
            refine rd hf rfl (yl_move rfl) rfl rfl ?_; intro a hf
            refine rd hf rfl (yl_move rfl) rfl rfl ?_; intro a hf
            refine rd hf rfl (yl_lenE rfl Try.underlying70 (hRc.els (.head _))) rfl rfl ?_; intro a hf
            refine rd hf rfl (yl_cmp rfl rfl rfl) rfl rfl ?_; intro a hf
            refine plan_nil ?_
            replace hf := hf.sel [113, 17, 15, 5, 7, 6, 0, 1] (l' := [(113, _), (17, _), (15, _), (5, _), (7, _), (6, _), (0, _), (1, _)]) rfl
            refine wp_ifd hf rfl (fun hlk => ?_) (fun hlk => ?_)
            · -- then
              have hltr : k < xs'.length := by omega
              have hj : xs'[k]? = some xs'[k] := List.getElem?_eq_getElem hltr
              refine wpIn_skip ?_
              refine wpIn_seq ?_
              refine wpIn_block ?_
              refine wpIn_seq ?_
              -- region 30 (law.go:161)
              refine wp_reg ([]) ([_, _, _, _, _, _, _] ++ rs) [(0, true), (1, true), (2, true), (3, true), (4, true), (5, true), (6, true), (7, true), (8, true), (9, true), (10, true), (11, true)] mixed (by kernel_rfl) (hT) ?_; intro w hT
              refine rd hf rfl (yl_move rfl) rfl rfl ?_; intro a hf
              refine rd hf rfl (yl_move rfl) rfl rfl ?_; intro a hf
              refine rd hf rfl (yl_indexE rfl rfl Try.underlying70 sz_31 (hRc.els (.head _)) (by omega) (by omega)) rfl rfl ?_; intro a hf
              refine rd hf rfl (yl_loadA Try.underlying31 rfl sz_31 rfl ((hRc.els (.head _)).row hj) rfl) rfl rfl ?_; intro a hf
              refine rd hf rfl (yl_move rfl) rfl rfl ?_; intro a hf
              refine rd hf rfl (yl_nil rfl) rfl rfl ?_; intro a hf
              refine rd hf rfl (yl_faddr Try.underlying75 rfl rfl sz_70 (k := 0) rfl) rfl rfl ?_; intro a hf
              refine rd hf rfl (yl_load Try.underlying70 rfl rfl ⟨_, .tail _ (.tail _ (.tail _ (.head _))), _, _, _, pt_self _ _, rfl⟩) rfl rfl ?_; intro a hf
              refine rd hf rfl (yl_move rfl) rfl rfl ?_; intro a hf
              refine rd hf rfl (yl_indexE rfl rfl Try.underlying70 sz_31 (hL2.els (.tail _ (.tail _ (.tail _ (.tail _ (.head _)))))) (by omega) (by omega)) rfl rfl ?_; intro a hf
              refine rd hf rfl (yl_loadA Try.underlying31 rfl sz_31 rfl ((hL2.els (.tail _ (.tail _ (.tail _ (.tail _ (.head _)))))).row hj) rfl) rfl rfl ?_; intro a hf
              refine rd hf rfl (yl_aggEq (k := 2) rfl rfl (by kernel_rfl) (by decide) (eqR xs'[k] xs'[k]) rfl) rfl rfl ?_; intro a hf
              refine plan_nil ?_
              replace hf := hf.sel [127, 17, 15, 5, 7, 6, 0, 1] (l' := [(127, _), (17, _), (15, _), (5, _), (7, _), (6, _), (0, _), (1, _)]) rfl
              refine wp_if hf rfl (fun hd => ?_) (fun hd => ?_)
              · -- then
                simp at hd
              · -- else
                refine wpIn_skip ?_
                -- region 29 (law.go:160)
                refine wp_reg ([]) ([_, _, _, _, _, _, _] ++ rs) [(0, true), (1, true), (2, true)] mixed (by kernel_rfl) (hT) ?_; intro w hT
                refine rd hf rfl (yl_move rfl) rfl rfl ?_; intro a hf
                refine rd hf rfl (yl_add rfl rfl (by unfold inI64; omega)) rfl rfl ?_; intro a hf
                refine rw_ hf rfl (yl_assign rfl) rfl (l' := [(17, _), (115, _), (114, _), (127, _), (15, _), (5, _), (7, _), (6, _), (0, _), (1, _)]) rfl ?_; intro a hf
                refine plan_nil ?_
                replace hf := hf.sel [17, 15, 5, 7, 6, 0, 1] (l' := [(17, _), (15, _), (5, _), (7, _), (6, _), (0, _), (1, _)]) rfl
                exact ⟨k + 1, _, hf.sel [17, 15, 5, 7, 6, 0, 1] rfl, ⟨rfl, by omega⟩, hT, by first | omega | (dsimp only; omega)⟩
            · -- else
              refine wpIn_exit ?_
              refine then_exit ?_
              refine then_exit ?_
              refine inBlock_hit ?_
              -- region 7 (law.go:136)
              refine wp_reg ([]) ([_, _, _, _, _, _, _] ++ rs) [(0, true), (1, true), (2, true)] mixed (by kernel_rfl) (hT) ?_; intro w hT
              refine rd hf rfl (yl_move rfl) rfl rfl ?_; intro a hf
              refine rd hf rfl (yl_add rfl rfl (by unfold inI64; omega)) rfl rfl ?_; intro a hf
              refine rw_ hf rfl (yl_assign rfl) rfl (l' := [(7, _), (30, _), (29, _), (113, _), (17, _), (15, _), (5, _), (6, _), (0, _), (1, _)]) rfl ?_; intro a hf
              refine plan_nil ?_
              replace hf := hf.sel [7, 5, 6, 0, 1] (l' := [(7, _), (5, _), (6, _), (0, _), (1, _)]) rfl
              exact ⟨(i + 1, b', xs'), _, hf.sel [7, 5, 6, 0, 1] rfl, ⟨hI2, by omega, _, _, lv2, XL2, hB2, hL2, rfl⟩, ((hT.brings [2, 2, 2]).tail.tail.tail.brings [1, 1, 3, 3]), by first | omega | (dsimp only; omega)⟩
    · -- else
      refine wpIn_exit ?_
      refine then_exit ?_
      refine then_exit ?_
      refine inBlock_hit ?_
      refine wpIn_seq ?_
      -- region 32 (law.go:166)
      refine wp_reg ([]) ([_, _, _, _] ++ rs) [(0, true), (1, true), (2, true), (3, false), (4, true), (5, true)] mixed (by kernel_rfl) (hT) ?_; intro w hT
      refine rd hf rfl (yl_move rfl) rfl rfl ?_; intro a hf
      refine rd hf rfl (yl_ptrNil rfl rfl Try.underlying71 rfl) rfl rfl ?_; intro a hf
      refine rd hf rfl (yl_move rfl) rfl rfl ?_; intro a hf
      refine ef_call hf rfl (by rw [wanted_some hf rfl rfl rfl rfl]; first | rfl | simp | decide) rfl rfl (by kernel_rfl) (Spec.frame (L2 := []) (fine_spec hT)) rfl (l' := [(130, _), (129, _), (128, _), (28, _), (7, _), (5, _), (6, _), (0, _), (1, _)]) rfl ?_; rintro a w v L ⟨L1, ⟨rfl, rfl⟩, rfl⟩ hf hT
      refine rd hf rfl (yl_pickTT rfl rfl rfl) rfl rfl ?_; intro a hf
      refine rd hf rfl (yl_assign rfl) rfl rfl ?_; intro a hf
      refine plan_nil ?_
      replace hf := hf.sel [4] (l' := [(4, _)]) rfl
      refine wpIn_ret ?_
      exact body_ret hf (L := []) hT.tail.tail.tail.tail rfl rfl ⟨rfl, rfl⟩
end Go.Proofs.Ytjhbgciocffihaa
