-- written by gen.py out of walks texts of my own
import Derived.Test.YtjhbgciocffihaaB35
import Derived.Test.YtjhbgciocffihaaK9
import Derived.Test.YtjhbgciocffihaaB8
set_option linter.unusedVariables false
set_option linter.unusedSimpArgs false
set_option maxHeartbeats 4000000
namespace Go.Proofs.Ytjhbgciocffihaa
theorem yl_orv {P : Program} {R : List Part} {l : List (Nat × Value)} {ty t u : TypeId} {x y : Operand} {p q : Int} (hx : ev l x = some (.int .u32 p)) (hy : ev l y = some (.int .u32 q)) (b c r : Nat) (hp : p = (b : Int)) (hq : q = (c : Int)) (hb : b < 4294967296) (hc : c < 4294967296) (hr : b ||| c = r) : Yl P R l (.binOp .or t x y u) ty (.int .u32 (r : Int)) :=
  hr ▸ yl_or hx hy b c hp hq hb hc
theorem bit_iff (b n : Nat) : ((b >>> n &&& 1 : Nat) : Int) = 1 ↔ b.testBit n = true := by
  rw [Nat.testBit_eq_decide_div_mod_eq, Nat.and_one_is_mod, Nat.shiftRight_eq_div_pow, decide_eq_true_eq]; omega
def cidxI (n o k b : Nat) : List Int := (cidx n o k b).map fun (i : Nat) => (i : Int)
/-- What Best answers. -/
def BestIs (xs : List Pcl) (m : Int) (out : List Int) (wo er : Int) : Prop :=
  (24 < xs.length ∧ er = 6 ∧ out = [] ∧ wo = 0) ∨ (xs.length ≤ 24 ∧ (¬ ∀ x ∈ xs, Pok x) ∧ er = 2 ∧ out = [] ∧ wo = 0) ∨
  (xs.length ≤ 24 ∧ (∀ x ∈ xs, Pok x) ∧ (m < 0 ∨ 16777216 < m) ∧ er = 3 ∧ out = [] ∧ wo = 0) ∨
  (xs.length ≤ 24 ∧ (∀ x ∈ xs, Pok x) ∧ ¬ (m < 0 ∨ 16777216 < m) ∧ er = 0 ∧ ∃ t, Top (Fe xs m) t ∧ out = cidxI xs.length 24 0 t.b ∧ wo = t.w)
theorem BestIs.det {xs : List Pcl} {m : Int} {o1 o2 : List Int} {w1 w2 e1 e2 : Int} (h1 : BestIs xs m o1 w1 e1) (h2 : BestIs xs m o2 w2 e2) : o1 = o2 ∧ w1 = w2 ∧ e1 = e2 := by
  rcases h1 with ⟨a, rfl, rfl, rfl⟩ | ⟨a, a2, rfl, rfl, rfl⟩ | ⟨a, a2, a3, rfl, rfl, rfl⟩ | ⟨a, a2, a3, rfl, t, ht, rfl, rfl⟩ <;>
  rcases h2 with ⟨b, rfl, rfl, rfl⟩ | ⟨b, b2, rfl, rfl, rfl⟩ | ⟨b, b2, b3, rfl, rfl, rfl⟩ | ⟨b, b2, b3, rfl, t', ht', rfl, rfl⟩ <;>
  first
    | exact ⟨rfl, rfl, rfl⟩
    | (exfalso; omega)
    | exact absurd b2 a2
    | exact absurd a2 b2
    | exact absurd a3 b3
    | exact absurd b3 a3
    | (rw [ht.uniq ht']; exact ⟨rfl, rfl, rfl⟩)
theorem cidxI_step {n o k b : Nat} : cidxI (n + 1) o k b = (if b.testBit (o - 1) = true then [(k : Int)] else []) ++ cidxI n (o - 1) (k + 1) b := by
  unfold cidxI
  show ((if _ then _ else _ : List Nat).map _) = _
  by_cases h : b.testBit (o - 1) = true
  · rw [if_pos h, if_pos h]; rfl
  · rw [if_neg h, if_neg h]; rfl
theorem Best_spec {e : Env} {w : World} {rs : List Part} (xs : List Pcl) (A0 : Option Addr) (cp : Nat) (hE : Els encPl rs (.slice A0 xs.length cp) xs) (hcap : xs.length ≤ cp) (m : Int) (hT : Tot e w rs) : Spec Try.prog 38 #[.slice A0 xs.length cp, .int .i64 m] e w rs (fun v L => ∃ q out wo er X, v = .tuple #[q, .int .i64 wo, .int .i64 er] ∧ Sl encI 3 q out X ∧ L = [X] ∧ BestIs xs m out wo er) := by
  refine spec_body Try.func38 rfl Try.ntmps38 rfl rfl ?_
  intro a hf
  refine wpIn_seq ?_
  -- region 0 (best.go:39)
  refine wp_reg ([]) ([] ++ rs) [(0, true), (1, true), (2, true)] mixed (by kernel_rfl) (hT) ?_; intro w hT
  refine rd hf rfl (yl_assign rfl) rfl rfl ?_; intro a hf
  refine rd hf rfl (yl_assign rfl) rfl rfl ?_; intro a hf
  refine rd hf rfl (yl_assign rfl) rfl rfl ?_; intro a hf
  refine plan_nil ?_
  replace hf := hf.sel [0, 1] (l' := [(0, _), (1, _)]) rfl
  refine wpIn_seq ?_
  refine wpIn_seq ?_
  -- region 1 (best.go:40)
  refine wp_reg ([]) ([] ++ rs) [(0, true), (1, true), (2, true)] mixed (by kernel_rfl) (hT) ?_; intro w hT
  refine rd hf rfl (yl_move rfl) rfl rfl ?_; intro a hf
  refine rd hf rfl (yl_lenE rfl Try.underlying81 hE.app) rfl rfl ?_; intro a hf
  refine rd hf rfl (yl_cmp rfl rfl rfl) rfl rfl ?_; intro a hf
  refine plan_nil ?_
  refine wp_ifd hf rfl (fun hmany => ?_) (fun hmany => ?_)
  · -- then
    refine wpIn_seq ?_
    -- region 2 (best.go:41)
    refine wp_reg ([]) ([] ++ rs) [(0, true), (1, true), (2, true)] mixed (by kernel_rfl) (hT) ?_; intro w hT
    refine rd hf rfl (yl_assign rfl) rfl rfl ?_; intro a hf
    refine rd hf rfl (yl_assign rfl) rfl rfl ?_; intro a hf
    refine rd hf rfl (yl_assign rfl) rfl rfl ?_; intro a hf
    refine plan_nil ?_
    replace hf := hf.sel [6, 5, 4] (l' := [(6, _), (5, _), (4, _)]) rfl
    refine wpIn_ret ?_
    replace hT := hT.emp
    exact body_ret hf (L := [_]) hT rfl rfl ⟨_, [], _, _, _, rfl, sl_nil, rfl, .inl ⟨by omega, rfl, rfl, rfl⟩⟩
  · -- else
    refine wpIn_skip ?_
    refine wpIn_seq ?_
    refine wpIn_seq ?_
    -- region 3 (best.go:43)
    refine wp_reg ([]) ([] ++ rs) [(0, true), (1, false)] mixed (by kernel_rfl) (hT) ?_; intro w hT
    refine rd hf rfl (yl_move rfl) rfl rfl ?_; intro a hf
    refine ef_call hf rfl (wanted_none _ _ rfl) rfl rfl (by kernel_rfl) (Spec.frame (L2 := []) (ContP_spec xs _ hE.app hT)) rfl (l' := [(24, _), (23, _), (22, _), (21, _), (0, _), (1, _)]) rfl ?_; rintro a w v L ⟨L1, ⟨rfl, rfl⟩, rfl⟩ hf hT
    refine plan_nil ?_
    replace hf := hf.sel [25, 0, 1] (l' := [(25, _), (0, _), (1, _)]) rfl
    refine wp_ifd hf rfl (fun hbad => ?_) (fun hbad => ?_)
    · -- then
      refine wpIn_seq ?_
      -- region 4 (best.go:46)
      refine wp_reg ([]) ([] ++ rs) [(0, true), (1, true), (2, true)] mixed (by kernel_rfl) (hT) ?_; intro w hT
      refine rd hf rfl (yl_assign rfl) rfl rfl ?_; intro a hf
      refine rd hf rfl (yl_assign rfl) rfl rfl ?_; intro a hf
      refine rd hf rfl (yl_assign rfl) rfl rfl ?_; intro a hf
      refine plan_nil ?_
      replace hf := hf.sel [6, 5, 4] (l' := [(6, _), (5, _), (4, _)]) rfl
      refine wpIn_ret ?_
      replace hT := hT.emp
      exact body_ret hf (L := [_]) hT rfl rfl ⟨_, [], _, _, _, rfl, sl_nil, rfl, .inr (.inl ⟨by omega, hbad, rfl, rfl, rfl⟩)⟩
    · -- else
      have hxs : ∀ x ∈ xs, Pok x := Decidable.of_not_not hbad
      refine wpIn_skip ?_
      refine wpIn_seq ?_
      refine wpIn_seq ?_
      -- region 5 (best.go:48)
      refine wp_reg ([]) ([] ++ rs) [(0, true), (1, false)] mixed (by kernel_rfl) (hT) ?_; intro w hT
      refine rd hf rfl (yl_move rfl) rfl rfl ?_; intro a hf
      refine ef_call hf rfl (wanted_none _ _ rfl) rfl rfl (by kernel_rfl) (Spec.frame (L2 := []) (outside_spec _ _ _ hT)) rfl (l' := [(26, _), (25, _), (0, _), (1, _)]) rfl ?_; rintro a w v L ⟨L1, ⟨rfl, rfl⟩, rfl⟩ hf hT
      refine plan_nil ?_
      refine wp_ifd hf rfl (fun hrng => ?_) (fun hrng => ?_)
      · -- then
        refine wpIn_seq ?_
        -- region 6 (best.go:49)
        refine wp_reg ([]) ([] ++ rs) [(0, true), (1, true), (2, true)] mixed (by kernel_rfl) (hT) ?_; intro w hT
        refine rd hf rfl (yl_assign rfl) rfl rfl ?_; intro a hf
        refine rd hf rfl (yl_assign rfl) rfl rfl ?_; intro a hf
        refine rd hf rfl (yl_assign rfl) rfl rfl ?_; intro a hf
        refine plan_nil ?_
        replace hf := hf.sel [6, 5, 4] (l' := [(6, _), (5, _), (4, _)]) rfl
        refine wpIn_ret ?_
        replace hT := hT.emp
        exact body_ret hf (L := [_]) hT rfl rfl ⟨_, [], _, _, _, rfl, sl_nil, rfl, .inr (.inr (.inl ⟨by omega, hxs, hrng, rfl, rfl, rfl⟩))⟩
      · -- else
        refine wpIn_skip ?_
        refine wpIn_seq ?_
        -- region 7 (best.go:51)
        refine wp_reg ([]) ([] ++ rs) [(0, true), (1, true), (2, true), (3, true)] mixed (by kernel_rfl) (hT) ?_; intro w hT
        refine rd hf rfl (yl_move rfl) rfl rfl ?_; intro a hf
        refine rd hf rfl (yl_lenE rfl Try.underlying81 hE.app) rfl rfl ?_; intro a hf
        refine rd hf rfl (yl_quo rfl rfl (by omega) (by omega) (by omega)) rfl rfl ?_; intro a hf
        refine rd hf rfl (yl_assign rfl) rfl rfl ?_; intro a hf
        refine plan_nil ?_
        have hq2 : (xs.length : Int) / 2 = ((xs.length / 2 : Nat) : Int) := by omega
        rw [hq2] at hf
        obtain ⟨h, hh⟩ : ∃ h, h = xs.length / 2 := ⟨_, rfl⟩
        rw [← hh] at hf
        have hx1 : ∀ x ∈ xs.take h, Pok x := fun x hx => hxs x (List.mem_of_mem_take hx)
        have hx2 : ∀ x ∈ xs.drop h, Pok x := fun x hx => hxs x (List.mem_of_mem_drop hx)
        have hl1 : (xs.take h).length = h := by rw [List.length_take]; omega
        have hl2 : (xs.drop h).length = xs.length - h := List.length_drop ..
        have hE1 : Els encPl rs (.slice (if cp = 0 then A0 else A0.map (·.add (0 * 2))) (h - 0) (cp - 0)) (xs.take h) := hE.sub (lo := 0) (hi := h) (Nat.zero_le _) (by omega) hcap
        have hE2 : Els encPl rs (.slice (if cp = h then A0 else A0.map (·.add (h * 2))) (xs.length - h) (cp - h)) (xs.drop h) := by
          have h1 := hE.sub (lo := h) (hi := xs.length) (by omega) (Nat.le_refl _) hcap
          rw [List.take_of_length_le (by rw [List.length_drop]; omega)] at h1; exact h1
        have hFl : (all (xs.take h) 24).length ≤ 4096 := by rw [all_len, hl1]; exact Nat.le_trans (Nat.pow_le_pow_right (by decide) (by omega : h ≤ 12)) (by decide)
        have hYl : (all (xs.drop h) (24 - h)).length ≤ 4096 := by rw [all_len, hl2]; exact Nat.le_trans (Nat.pow_le_pow_right (by decide) (by omega : xs.length - h ≤ 12)) (by decide)
        have hYp : 0 < (all (xs.drop h) (24 - h)).length := by rw [all_len]; exact Nat.pow_pos (by decide)
        have hFr := all_rng (xs.take h) 24 (by omega) hx1
        have hYr := all_rng (xs.drop h) (24 - h) (by omega) hx2
        replace hf := hf.sel [7, 0, 1] (l' := [(7, _), (0, _), (1, _)]) rfl
        refine wpIn_seq ?_
        -- region 8 (best.go:52)
        refine wp_reg ([]) ([] ++ rs) [(0, true), (1, true), (2, true), (4, true), (5, true), (6, true), (7, true), (8, true), (3, false), (9, false), (10, true), (11, true)] mixed (by kernel_rfl) (hT) ?_; intro w hT
        refine rd hf rfl (yl_move rfl) rfl rfl ?_; intro a hf
        refine rd hf rfl (yl_move rfl) rfl rfl ?_; intro a hf
        refine rd hf rfl (yl_slice (L := 0) (H := h) (A := A0) (c := cp) rfl Try.underlying81 sz_90 rfl (idxI rfl) (by omega) (by omega)) rfl rfl ?_; intro a hf
        refine rd hf rfl (yl_move rfl) rfl rfl ?_; intro a hf
        refine rd hf rfl (yl_move rfl) rfl rfl ?_; intro a hf
        refine rd hf rfl (yl_slice (L := h) (H := xs.length) (A := A0) (c := cp) rfl Try.underlying81 sz_90 (idxI rfl) rfl (by omega) (by omega)) rfl rfl ?_; intro a hf
        refine rd hf rfl (yl_move rfl) rfl rfl ?_; intro a hf
        refine rd hf rfl (yl_sub rfl rfl (by unfold inI64; omega)) rfl rfl ?_; intro a hf
        refine ef_call hf rfl (wanted_none _ _ rfl) rfl rfl (by kernel_rfl) (Spec.frame (L2 := []) (subsets_spec _ (xs.take h) hx1 24 (by omega) (by decide) (by omega) 23 (by decide) hE1.app hT)) rfl (l' := [(39, _), (38, _), (37, _), (36, _), (35, _), (33, _), (32, _), (31, _), (7, _), (0, _), (1, _)]) rfl ?_; rintro a w v1 L ⟨L1, ⟨X1, hX1, rfl⟩, rfl⟩ hf hT
        refine ef_call hf rfl (wanted_none _ _ rfl) rfl rfl (by kernel_rfl) (Spec.frame (L2 := [_]) (subsets_spec _ (xs.drop h) hx2 (24 - h) (by omega) (by omega) (by omega) _ (by omega) hE2.app hT)) rfl (l' := [(34, _), (39, _), (38, _), (37, _), (36, _), (35, _), (33, _), (32, _), (31, _), (7, _), (0, _), (1, _)]) rfl ?_; rintro a w v2 L ⟨L1, ⟨X2, hX2, rfl⟩, rfl⟩ hf hT
        refine rd hf rfl (yl_assign rfl) rfl rfl ?_; intro a hf
        refine rd hf rfl (yl_assign rfl) rfl rfl ?_; intro a hf
        refine plan_nil ?_
        replace hf := hf.sel [9, 8, 0, 1] (l' := [(9, _), (8, _), (0, _), (1, _)]) rfl
        refine wpIn_seq ?_
        -- region 9 (best.go:54)
        refine wp_reg ([_]) ([_] ++ rs) [(0, true), (1, false)] mixed (by kernel_rfl) (hT.brings [0]) ?_; intro w hT
        refine rd hf rfl (yl_move rfl) rfl rfl ?_; intro a hf
        refine ef_call hf rfl (wanted_none _ _ rfl) rfl rfl (by kernel_rfl) (Spec.frame (L2 := []) (SortC_spec hX2 (by omega) hT)) rfl (l' := [(41, _), (9, _), (8, _), (0, _), (1, _)]) rfl ?_; rintro a w v L ⟨L1, ⟨rfl, ys, X2, hperm, hsrt, hY2, rfl⟩, rfl⟩ hf hT
        refine plan_nil ?_
        have hyl := hperm.length_eq
        refine wpIn_seq ?_
        -- region 10 (best.go:55)
        refine wp_reg ([]) ([_, _] ++ rs) [(0, true), (1, false), (2, true)] mixed (by kernel_rfl) (hT) ?_; intro w hT
        refine rd hf rfl (yl_move rfl) rfl rfl ?_; intro a hf
        refine ef_call hf rfl (wanted_none _ _ rfl) rfl rfl (by kernel_rfl) (Spec.frame (L2 := []) (CloneC_spec ys v2 (hY2.els (.head _)) (by omega) hT)) rfl (l' := [(43, _), (42, _), (41, _), (9, _), (8, _), (0, _), (1, _)]) rfl ?_; rintro a w vb L ⟨L1, ⟨XB, hXB, rfl⟩, rfl⟩ hf hT
        refine rd hf rfl (yl_assign rfl) rfl rfl ?_; intro a hf
        refine plan_nil ?_
        replace hf := hf.sel [10, 9, 8, 0, 1] (l' := [(10, _), (9, _), (8, _), (0, _), (1, _)]) rfl
        refine wpIn_seq ?_
        refine wpIn_seq ?_
        -- region 11 (best.go:56)
        refine wp_reg ([]) ([_, _, _] ++ rs) [(0, true)] mixed (by kernel_rfl) (hT) ?_; intro w hT
        refine rd hf rfl (yl_assign rfl) rfl rfl ?_; intro a hf
        refine plan_nil ?_
        refine wpIn_block ?_
        refine wp_loopS (σ := Nat × List Ch) (fun (k, B) => [(11, .int .i64 (k : Nat))]) [(10, _), (9, _), (8, _), (0, _), (1, _)] (fun (k, B) L => 1 ≤ k ∧ k ≤ ys.length ∧ PB ys B k ∧ ∃ X, Sl encCh 139 vb B X ∧ L = [X]) (fun (k, B) => ys.length - k) (1, ys) (L := [_]) (R := [_, _] ++ rs) (hf.sel [11, 10, 9, 8, 0, 1] rfl) (⟨Nat.le_refl _, by omega, PB.one, _, hXB, rfl⟩) hT ?_
        clear hf hT; rintro ⟨k, B⟩ a w L hf ⟨hk1, hk2, hPB, XB, hXB, rfl⟩ hT
        replace hf : Fr _ [(11, .int .i64 (k : Nat)), (10, _), (9, _), (8, _), (0, _), (1, _)] _ _ := hf
        refine wpIn_seq ?_
        refine wpIn_seq ?_
        -- region 12 (best.go:56)
        refine wp_reg ([]) ([_, _, _] ++ rs) [(0, true), (1, true), (2, true), (3, true)] mixed (by kernel_rfl) (hT) ?_; intro w hT
        refine rd hf rfl (yl_move rfl) rfl rfl ?_; intro a hf
        refine rd hf rfl (yl_move rfl) rfl rfl ?_; intro a hf
        refine rd hf rfl (yl_lenE rfl Try.underlying135 (hXB.els (.head _))) rfl rfl ?_; intro a hf
        refine rd hf rfl (yl_cmp rfl rfl rfl) rfl rfl ?_; intro a hf
        refine plan_nil ?_
        replace hf := hf.sel [48, 11, 10, 9, 8, 0, 1] (l' := [(48, _), (11, _), (10, _), (9, _), (8, _), (0, _), (1, _)]) rfl
        refine wp_ifd hf rfl (fun hlt => ?_) (fun hlt => ?_)
        · -- then
          have hBl := hPB.1
          have hkB : k < B.length := by omega
          obtain ⟨p, hjp⟩ : ∃ p, B[((k : Int) - 1).toNat]? = some p := ⟨_, List.getElem?_eq_getElem (by omega)⟩
          obtain ⟨q, hjq⟩ : ∃ q, B[k]? = some q := ⟨_, List.getElem?_eq_getElem hkB⟩
          refine wpIn_skip ?_
          refine wpIn_seq ?_
          refine wpIn_block ?_
          refine wpIn_seq ?_
          -- region 14 (best.go:57)
          refine wp_reg ([]) ([_, _, _] ++ rs) [(0, true), (1, true), (2, true), (3, true), (4, true), (5, true), (6, true), (7, true), (8, true), (9, false)] mixed (by kernel_rfl) (hT) ?_; intro w hT
          refine rd hf rfl (yl_move rfl) rfl rfl ?_; intro a hf
          refine rd hf rfl (yl_move rfl) rfl rfl ?_; intro a hf
          refine rd hf rfl (yl_sub rfl rfl (by unfold inI64; omega)) rfl rfl ?_; intro a hf
          refine rd hf rfl (yl_indexE rfl rfl Try.underlying135 sz_139 (hXB.els (.head _)) (by omega) (by omega)) rfl rfl ?_; intro a hf
          refine rd hf rfl (yl_loadA Try.underlying139 rfl sz_139 rfl ((hXB.els (.head _)).row hjp) rfl) rfl rfl ?_; intro a hf
          refine rd hf rfl (yl_move rfl) rfl rfl ?_; intro a hf
          refine rd hf rfl (yl_move rfl) rfl rfl ?_; intro a hf
          refine rd hf rfl (yl_indexE rfl rfl Try.underlying135 sz_139 (hXB.els (.head _)) (by omega) (by omega)) rfl rfl ?_; intro a hf
          refine rd hf rfl (yl_loadA Try.underlying139 rfl sz_139 rfl ((hXB.els (.head _)).row hjq) rfl) rfl rfl ?_; intro a hf
          refine ef_call hf rfl (wanted_none _ _ rfl) rfl rfl (by kernel_rfl) (Spec.frame (L2 := []) (better_spec p q hT)) rfl (l' := [(59, _), (58, _), (57, _), (56, _), (55, _), (54, _), (53, _), (52, _), (51, _), (48, _), (11, _), (10, _), (9, _), (8, _), (0, _), (1, _)]) rfl ?_; rintro a w v L ⟨L1, ⟨rfl, rfl⟩, rfl⟩ hf hT
          refine plan_nil ?_
          replace hf := hf.sel [60, 11, 10, 9, 8, 0, 1] (l' := [(60, _), (11, _), (10, _), (9, _), (8, _), (0, _), (1, _)]) rfl
          refine wp_ifd hf rfl (fun hg => ?_) (fun hg => ?_)
          · -- then
            -- region 15 (best.go:58)
            refine wp_reg ([_]) ([_, _] ++ rs) [(0, false), (1, false), (2, false), (3, false), (4, false), (5, false), (6, false), (7, false), (8, false)] mixed (by kernel_rfl) (hT.brings [0]) ?_; intro w hT
            refine ef hf hT rfl rfl (ef_read (yl_move rfl)) rfl (l' := [(60, _), (11, _), (10, _), (9, _), (8, _), (0, _), (1, _)]) rfl ?_; rintro a w v L ⟨rfl, rfl⟩ hf hT
            refine ef hf hT rfl rfl (ef_read (yl_move rfl)) rfl (l' := [(61, _), (60, _), (11, _), (10, _), (9, _), (8, _), (0, _), (1, _)]) rfl ?_; rintro a w v L ⟨rfl, rfl⟩ hf hT
            refine ef hf hT rfl rfl (ef_read (yl_move rfl)) rfl (l' := [(62, _), (61, _), (60, _), (11, _), (10, _), (9, _), (8, _), (0, _), (1, _)]) rfl ?_; rintro a w v L ⟨rfl, rfl⟩ hf hT
            refine ef hf hT rfl rfl (ef_read (yl_move rfl)) rfl (l' := [(63, _), (62, _), (61, _), (60, _), (11, _), (10, _), (9, _), (8, _), (0, _), (1, _)]) rfl ?_; rintro a w v L ⟨rfl, rfl⟩ hf hT
            refine ef hf hT rfl rfl (ef_read (yl_sub rfl rfl (by unfold inI64; omega))) rfl (l' := [(64, _), (63, _), (62, _), (61, _), (60, _), (11, _), (10, _), (9, _), (8, _), (0, _), (1, _)]) rfl ?_; rintro a w v L ⟨rfl, rfl⟩ hf hT
            refine ef hf hT rfl rfl (ef_read (yl_indexE rfl rfl Try.underlying135 sz_139 (hXB.els (.head _)) (by omega) (by omega))) rfl (l' := [(65, _), (64, _), (63, _), (62, _), (61, _), (60, _), (11, _), (10, _), (9, _), (8, _), (0, _), (1, _)]) rfl ?_; rintro a w v L ⟨rfl, rfl⟩ hf hT
            refine ef hf hT rfl rfl (ef_read (yl_loadA Try.underlying139 rfl sz_139 rfl ((hXB.els (.head _)).row hjp) rfl)) rfl (l' := [(66, _), (65, _), (64, _), (63, _), (62, _), (61, _), (60, _), (11, _), (10, _), (9, _), (8, _), (0, _), (1, _)]) rfl ?_; rintro a w v L ⟨rfl, rfl⟩ hf hT
            refine ef hf hT rfl rfl (ef_read (yl_indexE rfl rfl Try.underlying135 sz_139 (hXB.els (.head _)) (by omega) (by omega))) rfl (l' := [(67, _), (66, _), (65, _), (64, _), (63, _), (62, _), (61, _), (60, _), (11, _), (10, _), (9, _), (8, _), (0, _), (1, _)]) rfl ?_; rintro a w v L ⟨rfl, rfl⟩ hf hT
            refine efS hf hT rfl rfl (ef_storeElA (E := encCh) k (a' := p) rfl rfl sz_139 rfl hXB (hkB)) ?_; rintro w L ⟨X1, hS1, rfl⟩ hT
            refine plan_nil ?_
            replace hf := hf.sel [11, 10, 9, 8, 0, 1] (l' := [(11, _), (10, _), (9, _), (8, _), (0, _), (1, _)]) rfl
            -- region 13 (best.go:56)
            refine wp_reg ([]) ([_, _, _] ++ rs) [(0, true), (1, true), (2, true)] mixed (by kernel_rfl) (hT) ?_; intro w hT
            refine rd hf rfl (yl_move rfl) rfl rfl ?_; intro a hf
            refine rd hf rfl (yl_add rfl rfl (by unfold inI64; omega)) rfl rfl ?_; intro a hf
            refine rw_ hf rfl (yl_assign rfl) rfl (l' := [(11, _), (50, _), (49, _), (10, _), (9, _), (8, _), (0, _), (1, _)]) rfl ?_; intro a hf
            refine plan_nil ?_
            exact ⟨(k + 1, B.set k p), _, hf.sel [11, 10, 9, 8, 0, 1] rfl, ⟨by omega, by omega, by have h1 := hPB.step (p := p) (by omega) (by omega) (by rw [← hjp]; congr 1; omega) hjq; rw [if_pos hg] at h1; exact h1, _, hS1, rfl⟩, hT, by first | omega | (dsimp only; omega)⟩
          · -- else
            refine wpIn_skip ?_
            -- region 13 (best.go:56)
            refine wp_reg ([]) ([_, _, _] ++ rs) [(0, true), (1, true), (2, true)] mixed (by kernel_rfl) (hT) ?_; intro w hT
            refine rd hf rfl (yl_move rfl) rfl rfl ?_; intro a hf
            refine rd hf rfl (yl_add rfl rfl (by unfold inI64; omega)) rfl rfl ?_; intro a hf
            refine rw_ hf rfl (yl_assign rfl) rfl (l' := [(11, _), (50, _), (49, _), (60, _), (10, _), (9, _), (8, _), (0, _), (1, _)]) rfl ?_; intro a hf
            refine plan_nil ?_
            replace hf := hf.sel [11, 10, 9, 8, 0, 1] (l' := [(11, _), (10, _), (9, _), (8, _), (0, _), (1, _)]) rfl
            exact ⟨(k + 1, B), _, hf.sel [11, 10, 9, 8, 0, 1] rfl, ⟨by omega, by omega, by have h1 := hPB.step (p := p) (by omega) (by omega) (by rw [← hjp]; congr 1; omega) hjq; rw [if_neg hg] at h1; exact h1, _, hXB, rfl⟩, hT, by first | omega | (dsimp only; omega)⟩
        · -- else
          have hBl := hPB.1
          obtain rfl : k = ys.length := by omega
          refine wpIn_exit ?_
          refine then_exit ?_
          refine then_exit ?_
          refine inBlock_hit ?_
          refine wpIn_seq ?_
          -- region 16 (best.go:61)
          refine wp_reg ([]) ([_, _, _] ++ rs) [(0, false)] mixed (by kernel_rfl) (hT) ?_; intro w hT
          refine ef hf hT rfl rfl (ef_alloc zr_139) rfl (l' := [(48, _), (11, _), (10, _), (9, _), (8, _), (0, _), (1, _)]) rfl ?_; rintro a w v L ⟨b1, rfl, rfl⟩ hf hT
          refine plan_nil ?_
          refine wpIn_seq ?_
          refine wpIn_seq ?_
          -- region 17 (best.go:62)
          refine wp_reg ([]) ([_, _, _, _] ++ rs) [(0, true), (1, true), (2, true)] mixed (by kernel_rfl) (hT) ?_; intro w hT
          refine rd hf rfl (yl_move rfl) rfl rfl ?_; intro a hf
          refine rd hf rfl (yl_lenE rfl Try.underlying135 (hX1.els (.tail _ (.tail _ (.tail _ (.head _)))))) rfl rfl ?_; intro a hf
          refine rd hf rfl (yl_move rfl) rfl rfl ?_; intro a hf
          refine plan_nil ?_
          replace hf := hf.sel [71, 70, 69, 12, 10, 9, 0, 1] (l' := [(71, _), (70, _), (69, _), (12, _), (10, _), (9, _), (0, _), (1, _)]) rfl
          refine wpIn_block ?_
          have hhalf0 : Half (xs.take h) (xs.drop h) m ((all (xs.take h) 24).take 0) Ch.zero := Half.nil (by omega)
          refine wp_loopS (σ := Nat × Ch) (fun (k, t) => [(71, .int .i64 (k : Nat))]) [(70, _), (69, _), (12, _), (10, _), (9, _), (0, _), (1, _)] (fun (k, t) L => k ≤ (all (xs.take h) 24).length ∧ Half (xs.take h) (xs.drop h) m ((all (xs.take h) 24).take k) t ∧ L = [pt b1 (.cells t.cells.toArray 139)]) (fun (k, t) => (all (xs.take h) 24).length - k) (0, Ch.zero) (L := [_]) (R := [_, _, _] ++ rs) (hf.sel [71, 70, 69, 12, 10, 9, 0, 1] rfl) (⟨Nat.zero_le _, hhalf0, rfl⟩) hT ?_
          clear hf hT; rintro ⟨k, t⟩ a w L hf ⟨hk, hhalf, rfl⟩ hT
          replace hf : Fr _ [(71, .int .i64 (k : Nat)), (70, _), (69, _), (12, _), (10, _), (9, _), (0, _), (1, _)] _ _ := hf
          refine wpIn_seq ?_
          -- region 18 (best.go:62)
          refine wp_reg ([]) ([_, _, _, _] ++ rs) [(0, true)] mixed (by kernel_rfl) (hT) ?_; intro w hT
          refine rd hf rfl (yl_cmp rfl rfl rfl) rfl rfl ?_; intro a hf
          refine plan_nil ?_
          refine wpIn_seq ?_
          refine wp_ifd hf rfl (fun hlt => ?_) (fun hlt => ?_)
          · -- then
            have hltk : k < (all (xs.take h) 24).length := by omega
            obtain ⟨c, hck⟩ : ∃ c, c = (all (xs.take h) 24)[k] := ⟨_, rfl⟩
            have hj : (all (xs.take h) 24)[k]? = some c := by rw [hck]; exact List.getElem?_eq_getElem hltk
            replace hck := hck.symm
            have hcF : c ∈ (all (xs.take h) 24) := List.mem_of_getElem? hj
            obtain ⟨cb1, cb2, cb3, cb4, cb5, cb6⟩ := hFr c hcF
            obtain ⟨p, hp, hpart⟩ := part_ex (m - c.s) ys hsrt
            have hBl := hPB.1
            refine wpIn_skip ?_
            refine wpIn_seq ?_
            refine wpIn_block ?_
            refine wpIn_seq ?_
            -- region 19 (best.go:62)
            refine wp_reg ([]) ([_, _, _, _] ++ rs) [(0, true), (1, true), (2, false), (3, false)] mixed (by kernel_rfl) (hT) ?_; intro w hT
            refine rd hf rfl (yl_indexE rfl rfl Try.underlying135 sz_139 (hX1.els (.tail _ (.tail _ (.tail _ (.head _))))) (by omega) (by omega)) rfl rfl ?_; intro a hf
            refine rd hf rfl (yl_loadA Try.underlying139 rfl sz_139 rfl ((hX1.els (.tail _ (.tail _ (.tail _ (.head _))))).row hj) rfl) rfl rfl ?_; intro a hf
            refine ef hf hT rfl rfl (ef_alloc zr_139) rfl (l' := [(74, _), (73, _), (72, _), (71, _), (70, _), (69, _), (12, _), (10, _), (9, _), (0, _), (1, _)]) rfl ?_; rintro a w v L ⟨b2, rfl, rfl⟩ hf hT
            refine efS hf hT rfl rfl (ef_storeW rfl rfl sz_139 rfl rfl rfl) ?_; rintro w L rfl hT
            refine plan_nil ?_
            replace hf := hf.sel [14, 71, 70, 69, 12, 10, 9, 0, 1] (l' := [(14, _), (71, _), (70, _), (69, _), (12, _), (10, _), (9, _), (0, _), (1, _)]) rfl
            refine wpIn_seq ?_
            -- region 20 (best.go:63)
            refine wp_reg ([]) ([_, _, _, _, _] ++ rs) [(0, true), (1, true), (2, true), (3, true), (4, true)] mixed (by kernel_rfl) (hT) ?_; intro w hT
            refine rd hf rfl (yl_move rfl) rfl rfl ?_; intro a hf
            refine rd hf rfl (yl_faddr Try.underlying139 rfl rfl sz_2 (k := 2) rfl) rfl rfl ?_; intro a hf
            refine rd hf rfl (yl_load Try.underlying2 rfl rfl ⟨_, .head _, _, _, _, pt_self _ _, rfl⟩) rfl rfl ?_; intro a hf
            refine rd hf rfl (yl_sub rfl rfl (by unfold inI64; omega)) rfl rfl ?_; intro a hf
            refine rd hf rfl (yl_assign rfl) rfl rfl ?_; intro a hf
            refine plan_nil ?_
            replace hf := hf.sel [15, 14, 71, 70, 69, 12, 10, 9, 0, 1] (l' := [(15, _), (14, _), (71, _), (70, _), (69, _), (12, _), (10, _), (9, _), (0, _), (1, _)]) rfl
            refine wpIn_seq ?_
            -- region 21 (best.go:64)
            refine wp_reg ([]) ([_, _, _, _, _] ++ rs) [(0, true), (1, true), (2, false), (3, true)] mixed (by kernel_rfl) (hT) ?_; intro w hT
            refine rd hf rfl (yl_move rfl) rfl rfl ?_; intro a hf
            refine rd hf rfl (yl_move rfl) rfl rfl ?_; intro a hf
            refine ef_call hf rfl (wanted_none _ _ rfl) rfl rfl (by kernel_rfl) (Spec.frame (L2 := []) (placeC_spec ys v2 (hY2.els (.tail _ (.tail _ (.tail _ (.head _))))) (by omega) (m - c.s) p hp hpart hT)) rfl (l' := [(80, _), (79, _), (15, _), (14, _), (71, _), (70, _), (69, _), (12, _), (10, _), (9, _), (0, _), (1, _)]) rfl ?_; rintro a w v L ⟨L1, ⟨rfl, rfl⟩, rfl⟩ hf hT
            refine rd hf rfl (yl_assign rfl) rfl rfl ?_; intro a hf
            refine plan_nil ?_
            replace hf := hf.sel [16, 14, 71, 70, 69, 12, 10, 9, 0, 1] (l' := [(16, _), (14, _), (71, _), (70, _), (69, _), (12, _), (10, _), (9, _), (0, _), (1, _)]) rfl
            refine wpIn_seq ?_
            refine wpIn_seq ?_
            -- region 22 (best.go:70)
            refine wp_reg ([]) ([_, _, _, _, _] ++ rs) [(0, true), (1, true)] mixed (by kernel_rfl) (hT) ?_; intro w hT
            refine rd hf rfl (yl_move rfl) rfl rfl ?_; intro a hf
            refine rd hf rfl (yl_cmp rfl rfl rfl) rfl rfl ?_; intro a hf
            refine plan_nil ?_
            refine wp_ifd hf rfl (fun hp0 => ?_) (fun hp0 => ?_)
            · -- then
              refine wpIn_exit ?_
              refine then_exit ?_
              refine inBlock_hit ?_
              -- region 27 (best.go:62)
              refine wp_reg ([]) ([_, _, _, _, _] ++ rs) [(0, true), (1, true)] mixed (by kernel_rfl) (hT) ?_; intro w hT
              refine rd hf rfl (yl_add rfl rfl (by unfold inI64; omega)) rfl rfl ?_; intro a hf
              refine rw_ hf rfl (yl_move rfl) rfl (l' := [(71, _), (109, _), (83, _), (82, _), (16, _), (14, _), (70, _), (69, _), (12, _), (10, _), (9, _), (0, _), (1, _)]) rfl ?_; intro a hf
              refine plan_nil ?_
              replace hf := hf.sel [71, 70, 69, 12, 10, 9, 0, 1] (l' := [(71, _), (70, _), (69, _), (12, _), (10, _), (9, _), (0, _), (1, _)]) rfl
              exact ⟨(k + 1, t), _, hf.sel [71, 70, 69, 12, 10, 9, 0, 1] rfl, ⟨by omega, by rw [List.take_succ_eq_append_getElem hltk, hck]; exact hhalf.none (S := ys) (by rw [hl1]; exact hperm) (fun j hj => by have := hpart j hj; omega), rfl⟩, (hT.brings [0]).tail, by first | omega | (dsimp only; omega)⟩
            · -- else
              have hp1 : 0 < p := by omega
              obtain ⟨d, hjd⟩ : ∃ d, B[((p : Int) - 1).toNat]? = some d := ⟨_, List.getElem?_eq_getElem (by omega)⟩
              have hdB' : B[p - 1]? = some d := by rw [← hjd]; congr 1; omega
              have hdY : d ∈ (all (xs.drop h) (24 - h)) := by
                obtain ⟨hd1, hd2⟩ := List.getElem?_eq_some_iff.1 hdB'
                have h3 := hPB.2.2 (p - 1) hd1 (by omega)
                rw [hd2] at h3
                exact hperm.mem_iff.1 (List.mem_of_mem_take h3.mem)
              obtain ⟨db1, db2, db3, db4, db5, db6⟩ := hYr d hdY
              rw [hl1] at cb2 cb4 cb6
              rw [hl2] at db4 db6
              have hdb24 : d.b < 2 ^ 24 := Nat.lt_of_lt_of_le db1 (Nat.pow_le_pow_right (by decide) (by omega))
              have hor : c.b ||| d.b = c.b + d.b := or_add cb2 db1
              refine wpIn_skip ?_
              refine wpIn_seq ?_
              -- region 23 (best.go:73)
              refine wp_reg ([]) ([_, _, _, _, _] ++ rs) [(0, true), (1, true), (2, true), (3, true), (4, true), (5, false), (6, false)] mixed (by kernel_rfl) (hT) ?_; intro w hT
              refine rd hf rfl (yl_move rfl) rfl rfl ?_; intro a hf
              refine rd hf rfl (yl_move rfl) rfl rfl ?_; intro a hf
              refine rd hf rfl (yl_sub rfl rfl (by unfold inI64; omega)) rfl rfl ?_; intro a hf
              refine rd hf rfl (yl_indexE rfl rfl Try.underlying135 sz_139 (hXB.els (.tail _ (.tail _ (.head _)))) (by omega) (by omega)) rfl rfl ?_; intro a hf
              refine rd hf rfl (yl_loadA Try.underlying139 rfl sz_139 rfl ((hXB.els (.tail _ (.tail _ (.head _)))).row hjd) rfl) rfl rfl ?_; intro a hf
              refine ef hf hT rfl rfl (ef_alloc zr_139) rfl (l' := [(88, _), (87, _), (86, _), (85, _), (84, _), (83, _), (82, _), (16, _), (14, _), (71, _), (70, _), (69, _), (12, _), (10, _), (9, _), (0, _), (1, _)]) rfl ?_; rintro a w v L ⟨b3, rfl, rfl⟩ hf hT
              refine efS hf hT rfl rfl (ef_storeW rfl rfl sz_139 rfl rfl rfl) ?_; rintro w L rfl hT
              refine plan_nil ?_
              replace hf := hf.sel [17, 14, 71, 70, 69, 12, 10, 9, 0, 1] (l' := [(17, _), (14, _), (71, _), (70, _), (69, _), (12, _), (10, _), (9, _), (0, _), (1, _)]) rfl
              refine wpIn_seq ?_
              -- region 24 (best.go:74)
              refine wp_reg ([]) ([_, _, _, _, _, _] ++ rs) [(0, true), (1, true), (2, true), (3, true), (4, true), (5, true), (6, true), (7, true), (8, true), (9, true), (10, true), (11, true), (12, true), (13, true), (14, true), (15, true), (16, false), (17, false)] mixed (by kernel_rfl) (hT) ?_; intro w hT
              refine rd hf rfl (yl_faddr Try.underlying139 rfl rfl sz_87 (k := 0) rfl) rfl rfl ?_; intro a hf
              refine rd hf rfl (yl_load Try.underlying87 rfl rfl ⟨_, .tail _ (.head _), _, _, _, pt_self _ _, rfl⟩) rfl rfl ?_; intro a hf
              refine rd hf rfl (yl_faddr Try.underlying139 rfl rfl sz_87 (k := 0) rfl) rfl rfl ?_; intro a hf
              refine rd hf rfl (yl_load Try.underlying87 rfl rfl ⟨_, .head _, _, _, _, pt_self _ _, rfl⟩) rfl rfl ?_; intro a hf
              refine rd hf rfl (yl_orv rfl rfl c.b d.b (c.b + d.b) rfl rfl (by omega) (by omega) hor) rfl rfl ?_; intro a hf
              refine rd hf rfl (yl_faddr Try.underlying139 rfl rfl sz_2 (k := 1) rfl) rfl rfl ?_; intro a hf
              refine rd hf rfl (yl_load Try.underlying2 rfl rfl ⟨_, .tail _ (.head _), _, _, _, pt_self _ _, rfl⟩) rfl rfl ?_; intro a hf
              refine rd hf rfl (yl_faddr Try.underlying139 rfl rfl sz_2 (k := 1) rfl) rfl rfl ?_; intro a hf
              refine rd hf rfl (yl_load Try.underlying2 rfl rfl ⟨_, .head _, _, _, _, pt_self _ _, rfl⟩) rfl rfl ?_; intro a hf
              refine rd hf rfl (yl_add rfl rfl (by unfold inI64; omega)) rfl rfl ?_; intro a hf
              refine rd hf rfl (yl_faddr Try.underlying139 rfl rfl sz_2 (k := 2) rfl) rfl rfl ?_; intro a hf
              refine rd hf rfl (yl_load Try.underlying2 rfl rfl ⟨_, .tail _ (.head _), _, _, _, pt_self _ _, rfl⟩) rfl rfl ?_; intro a hf
              refine rd hf rfl (yl_faddr Try.underlying139 rfl rfl sz_2 (k := 2) rfl) rfl rfl ?_; intro a hf
              refine rd hf rfl (yl_load Try.underlying2 rfl rfl ⟨_, .head _, _, _, _, pt_self _ _, rfl⟩) rfl rfl ?_; intro a hf
              refine rd hf rfl (yl_add rfl rfl (by unfold inI64; omega)) rfl rfl ?_; intro a hf
              refine rd hf rfl (yl_build rfl Try.underlying139 zr_139 (places := [(0, 1), (1, 1), (2, 1)]) (by kernel_rfl) (by kernel_rfl) rfl) rfl rfl ?_; intro a hf
              refine ef hf hT rfl rfl (ef_alloc zr_139) rfl (l' := [(104, _), (103, _), (102, _), (101, _), (100, _), (99, _), (98, _), (97, _), (96, _), (95, _), (94, _), (93, _), (92, _), (91, _), (90, _), (89, _), (17, _), (14, _), (71, _), (70, _), (69, _), (12, _), (10, _), (9, _), (0, _), (1, _)]) rfl ?_; rintro a w v L ⟨b4, rfl, rfl⟩ hf hT
              refine efS hf hT rfl rfl (ef_storeW rfl rfl sz_139 rfl rfl rfl) ?_; rintro w L rfl hT
              refine plan_nil ?_
              replace hf := hf.sel [18, 71, 70, 69, 12, 10, 9, 0, 1] (l' := [(18, _), (71, _), (70, _), (69, _), (12, _), (10, _), (9, _), (0, _), (1, _)]) rfl
              refine wpIn_seq ?_
              -- region 25 (best.go:74)
              refine wp_reg ([]) ([_, _, _, _, _, _, _] ++ rs) [(0, true), (1, true), (2, false)] mixed (by kernel_rfl) (hT) ?_; intro w hT
              refine rd hf rfl (yl_loadB Try.underlying139 rfl sz_139 (vs := (c.add d).cells) (.head _) rfl (pt_self _ _) rfl rfl) rfl rfl ?_; intro a hf
              refine rd hf rfl (yl_loadB Try.underlying139 rfl sz_139 (vs := t.cells) (.tail _ (.tail _ (.tail _ (.head _)))) rfl (pt_self _ _) rfl rfl) rfl rfl ?_; intro a hf
              refine ef_call hf rfl (wanted_none _ _ rfl) rfl rfl (by kernel_rfl) (Spec.frame (L2 := []) (better_spec (c.add d) t hT)) rfl (l' := [(106, _), (105, _), (18, _), (71, _), (70, _), (69, _), (12, _), (10, _), (9, _), (0, _), (1, _)]) rfl ?_; rintro a w v L ⟨L1, ⟨rfl, rfl⟩, rfl⟩ hf hT
              refine plan_nil ?_
              refine wp_ifd hf rfl (fun hg => ?_) (fun hg => ?_)
              · -- then
                -- region 26 (best.go:75)
                refine wp_reg ([]) ([_, _, _, _, _, _, _] ++ rs) [(0, true), (1, false)] mixed (by kernel_rfl) (hT) ?_; intro w hT
                refine rd hf rfl (yl_loadB Try.underlying139 rfl sz_139 (vs := (c.add d).cells) (.head _) rfl (pt_self _ _) rfl rfl) rfl rfl ?_; intro a hf
                replace hT : Tot _ _ ([_] ++ ([_, _, _, _, _, _] ++ rs)) := hT.bring 3
                refine efS_last hf hT rfl rfl (by kernel_rfl) (ef_storeW rfl rfl sz_139 rfl rfl rfl) ?_; rintro w L rfl hT
                replace hf := hf.sel [71, 70, 69, 12, 10, 9, 0, 1] (l' := [(71, _), (70, _), (69, _), (12, _), (10, _), (9, _), (0, _), (1, _)]) rfl
                -- region 27 (best.go:62)
                refine wp_reg ([]) ([_, _, _, _, _, _, _] ++ rs) [(0, true), (1, true)] mixed (by kernel_rfl) (hT) ?_; intro w hT
                refine rd hf rfl (yl_add rfl rfl (by unfold inI64; omega)) rfl rfl ?_; intro a hf
                refine rw_ hf rfl (yl_move rfl) rfl (l' := [(71, _), (109, _), (70, _), (69, _), (12, _), (10, _), (9, _), (0, _), (1, _)]) rfl ?_; intro a hf
                refine plan_nil ?_
                exact ⟨(k + 1, c.add d), _, hf.sel [71, 70, 69, 12, 10, 9, 0, 1] rfl, ⟨by omega, by rw [List.take_succ_eq_append_getElem hltk, hck]; have h1 := hhalf.some (S := ys) (B := B) (n := p) (d := d) (by rw [hl1]; exact hperm) hPB hcF hp1 hp (fun j hj hjp => (hpart j hj).2 hjp) (fun j hj hjp => by have := hpart j hj; omega) hdB'; rw [if_pos hg] at h1; exact h1, rfl⟩, (hT.brings [3, 3, 3]).tail.tail.tail, by first | omega | (dsimp only; omega)⟩
              · -- else
                refine wpIn_skip ?_
                -- region 27 (best.go:62)
                refine wp_reg ([]) ([_, _, _, _, _, _, _] ++ rs) [(0, true), (1, true)] mixed (by kernel_rfl) (hT) ?_; intro w hT
                refine rd hf rfl (yl_add rfl rfl (by unfold inI64; omega)) rfl rfl ?_; intro a hf
                refine rw_ hf rfl (yl_move rfl) rfl (l' := [(71, _), (109, _), (107, _), (106, _), (105, _), (18, _), (70, _), (69, _), (12, _), (10, _), (9, _), (0, _), (1, _)]) rfl ?_; intro a hf
                refine plan_nil ?_
                replace hf := hf.sel [71, 70, 69, 12, 10, 9, 0, 1] (l' := [(71, _), (70, _), (69, _), (12, _), (10, _), (9, _), (0, _), (1, _)]) rfl
                exact ⟨(k + 1, t), _, hf.sel [71, 70, 69, 12, 10, 9, 0, 1] rfl, ⟨by omega, by rw [List.take_succ_eq_append_getElem hltk, hck]; have h1 := hhalf.some (S := ys) (B := B) (n := p) (d := d) (by rw [hl1]; exact hperm) hPB hcF hp1 hp (fun j hj hjp => (hpart j hj).2 hjp) (fun j hj hjp => by have := hpart j hj; omega) hdB'; rw [if_neg hg] at h1; exact h1, rfl⟩, (hT.brings [2, 2, 2]).tail.tail.tail, by first | omega | (dsimp only; omega)⟩
          · -- else
            obtain rfl : k = (all (xs.take h) 24).length := by omega
            rw [List.take_length] at hhalf
            have htop := hhalf.top
            rw [List.take_append_drop] at htop
            have htr := all_rng xs 24 (by omega) hxs t htop.mem.1
            refine wpIn_exit ?_
            refine then_exit ?_
            refine then_exit ?_
            refine inBlock_hit ?_
            refine wpIn_seq ?_
            -- region 28 (best.go:78)
            refine wp_reg ([]) ([_, _, _, _] ++ rs) [(0, true)] mixed (by kernel_rfl) (hT) ?_; intro w hT
            refine rd hf rfl (yl_assign rfl) rfl rfl ?_; intro a hf
            refine plan_nil ?_
            replace hf := hf.sel [19, 12, 0] (l' := [(19, _), (12, _), (0, _)]) rfl
            refine wpIn_seq ?_
            refine wpIn_seq ?_
            -- region 29 (best.go:79)
            refine wp_reg ([]) ([_, _, _, _] ++ rs) [(0, true), (1, true), (2, true)] mixed (by kernel_rfl) (hT) ?_; intro w hT
            refine rd hf rfl (yl_move rfl) rfl rfl ?_; intro a hf
            refine rd hf rfl (yl_lenE rfl Try.underlying81 hE.app) rfl rfl ?_; intro a hf
            refine rd hf rfl (yl_move rfl) rfl rfl ?_; intro a hf
            refine plan_nil ?_
            refine wpIn_block ?_
            replace hT := hT.emp
            refine wp_loopS (σ := Nat × Value × List Int) (fun (i, q, out) => [(112, .int .i64 (i : Nat)), (19, q)]) [(111, _), (12, _)] (fun (i, q, out) L => i ≤ xs.length ∧ out.length ≤ i ∧ out ++ cidxI (xs.length - i) (24 - i) i t.b = cidxI xs.length 24 0 t.b ∧ ∃ X, Sl encI 3 q out X ∧ L = [X]) (fun (i, q, out) => xs.length - i) (0, .slice none 0 0, []) (L := [_]) (R := [_, _, _, _] ++ rs) (hf.sel [112, 19, 111, 12] rfl) (⟨Nat.zero_le _, Nat.le_refl _, rfl, _, sl_nil, rfl⟩) hT ?_
            clear hf hT; rintro ⟨i, q, out⟩ a w L hf ⟨hi1, hi2, hout, XD, hD, rfl⟩ hT
            replace hf : Fr _ [(112, .int .i64 (i : Nat)), (19, q), (111, _), (12, _)] _ _ := hf
            refine wpIn_seq ?_
            -- region 30 (best.go:79)
            refine wp_reg ([]) ([_, _, _, _, _] ++ rs) [(0, true)] mixed (by kernel_rfl) (hT) ?_; intro w hT
            refine rd hf rfl (yl_cmp rfl rfl rfl) rfl rfl ?_; intro a hf
            refine plan_nil ?_
            refine wpIn_seq ?_
            refine wp_ifd hf rfl (fun hlt => ?_) (fun hlt => ?_)
            · -- then
              have hlti : i < xs.length := by omega
              have hst := hout
              rw [show xs.length - i = (xs.length - (i + 1)) + 1 by omega, cidxI_step, show 24 - i - 1 = 24 - (i + 1) by omega] at hst
              have htb : t.b < 2 ^ 24 := htr.b
              have hsh : t.b >>> (23 - i) ≤ t.b := Nat.shiftRight_le ..
              refine wpIn_skip ?_
              refine wpIn_seq ?_
              refine wpIn_block ?_
              refine wpIn_seq ?_
              -- region 31 (best.go:79)
              refine wp_reg ([]) ([_, _, _, _, _] ++ rs) [(0, true), (1, true)] mixed (by kernel_rfl) (hT) ?_; intro w hT
              refine rd hf rfl (yl_move rfl) rfl rfl ?_; intro a hf
              refine rd hf rfl (yl_assign rfl) rfl rfl ?_; intro a hf
              refine plan_nil ?_
              refine wpIn_seq ?_
              -- region 32 (best.go:80)
              refine wp_reg ([]) ([_, _, _, _, _] ++ rs) [(0, true), (1, true), (2, true), (3, true), (4, true), (5, true), (6, true)] mixed (by kernel_rfl) (hT) ?_; intro w hT
              refine rd hf rfl (yl_faddr Try.underlying139 rfl rfl sz_87 (k := 0) rfl) rfl rfl ?_; intro a hf
              refine rd hf rfl (yl_load Try.underlying87 rfl rfl ⟨_, .tail _ (.head _), _, _, _, pt_self _ _, rfl⟩) rfl rfl ?_; intro a hf
              refine rd hf rfl (yl_move rfl) rfl rfl ?_; intro a hf
              refine rd hf rfl (yl_sub rfl rfl (by unfold inI64; omega)) rfl rfl ?_; intro a hf
              refine rd hf rfl (yl_shr (23 - i) rfl rfl t.b rfl (by omega) (by omega)) rfl rfl ?_; intro a hf
              refine rd hf rfl (yl_and rfl rfl (t.b >>> (23 - i)) 1 rfl rfl (by omega) (by decide)) rfl rfl ?_; intro a hf
              refine rd hf rfl (yl_cmp rfl rfl rfl) rfl rfl ?_; intro a hf
              refine plan_nil ?_
              replace hf := hf.sel [121, 20, 112, 19, 111, 12] (l' := [(121, _), (20, _), (112, _), (19, _), (111, _), (12, _)]) rfl
              refine wp_ifd hf rfl (fun hbit => ?_) (fun hbit => ?_)
              · -- then
                -- region 33 (best.go:81)
                refine wp_reg ([_]) ([_, _, _, _] ++ rs) [(0, true), (1, true), (2, false), (3, false), (4, true)] mixed (by kernel_rfl) (hT.brings [0]) ?_; intro w hT
                refine rd hf rfl (yl_move rfl) rfl rfl ?_; intro a hf
                refine rd hf rfl (yl_move rfl) rfl rfl ?_; intro a hf
                refine ef hf hT rfl rfl (ef_buildSlice (E := encI) (xs := [(i : Int)]) rfl rfl Try.underlying82 zs_3 rfl (by decide) rfl (by decide)) rfl (l' := [(123, _), (122, _), (121, _), (20, _), (112, _), (19, _), (111, _), (12, _)]) rfl ?_; rintro a w one L ⟨b5, p1, hvp1, hp1, rfl⟩ hf hT
                replace hT : Tot _ _ ([_, _] ++ ([_, _, _, _] ++ rs)) := hT.bring 1
                refine ef hf hT rfl rfl (ef_append (E := encI) (L := [_]) rfl rfl Try.underlying82 zb_3 rfl hD (hp1.els (.tail _ (.head _))) (by simp; omega) (by simp [maxLen]; omega)) rfl (l' := [(124, _), (123, _), (122, _), (121, _), (20, _), (112, _), (19, _), (111, _), (12, _)]) rfl ?_; rintro a w q2 L ⟨X2, hS2, rfl⟩ hf hT
                refine rw_ hf rfl (yl_assign rfl) rfl (l' := [(19, _), (125, _), (124, _), (123, _), (122, _), (121, _), (20, _), (112, _), (111, _), (12, _)]) rfl ?_; intro a hf
                refine plan_nil ?_
                replace hf := hf.sel [19, 112, 111, 12] (l' := [(19, _), (112, _), (111, _), (12, _)]) rfl
                -- region 34 (best.go:79)
                refine wp_reg ([]) ([_, _, _, _, _, _] ++ rs) [(0, true), (1, true)] mixed (by kernel_rfl) (hT) ?_; intro w hT
                refine rd hf rfl (yl_add rfl rfl (by unfold inI64; omega)) rfl rfl ?_; intro a hf
                refine rw_ hf rfl (yl_move rfl) rfl (l' := [(112, _), (126, _), (19, _), (111, _), (12, _)]) rfl ?_; intro a hf
                refine plan_nil ?_
                exact ⟨(i + 1, q2, out ++ [(i : Int)]), _, hf.sel [112, 19, 111, 12] rfl, ⟨by omega, by rw [List.length_append]; simp only [List.length_cons, List.length_nil]; omega, by rw [if_pos (by rw [show 24 - (i + 1) = 23 - i by omega]; exact (bit_iff _ _).1 hbit)] at hst; rw [List.append_assoc]; exact hst, _, hS2, rfl⟩, (hT.brings [1]).tail, by first | omega | (dsimp only; omega)⟩
              · -- else
                refine wpIn_skip ?_
                -- region 34 (best.go:79)
                refine wp_reg ([]) ([_, _, _, _, _] ++ rs) [(0, true), (1, true)] mixed (by kernel_rfl) (hT) ?_; intro w hT
                refine rd hf rfl (yl_add rfl rfl (by unfold inI64; omega)) rfl rfl ?_; intro a hf
                refine rw_ hf rfl (yl_move rfl) rfl (l' := [(112, _), (126, _), (121, _), (20, _), (19, _), (111, _), (12, _)]) rfl ?_; intro a hf
                refine plan_nil ?_
                replace hf := hf.sel [112, 19, 111, 12] (l' := [(112, _), (19, _), (111, _), (12, _)]) rfl
                exact ⟨(i + 1, q, out), _, hf.sel [112, 19, 111, 12] rfl, ⟨by omega, by omega, by rw [if_neg (by rw [show 24 - (i + 1) = 23 - i by omega]; exact fun hb => hbit ((bit_iff _ _).2 hb)), List.nil_append] at hst; exact hst, _, hD, rfl⟩, hT, by first | omega | (dsimp only; omega)⟩
            · -- else
              obtain rfl : i = xs.length := by omega
              refine wpIn_exit ?_
              refine then_exit ?_
              refine then_exit ?_
              refine inBlock_hit ?_
              refine wpIn_seq ?_
              -- region 35 (best.go:84)
              refine wp_reg ([]) ([_, _, _, _, _] ++ rs) [(0, true), (1, true), (2, true), (3, true), (4, true), (5, true)] mixed (by kernel_rfl) (hT) ?_; intro w hT
              refine rd hf rfl (yl_move rfl) rfl rfl ?_; intro a hf
              refine rd hf rfl (yl_faddr Try.underlying139 rfl rfl sz_2 (k := 1) rfl) rfl rfl ?_; intro a hf
              refine rd hf rfl (yl_load Try.underlying2 rfl rfl ⟨_, .tail _ (.head _), _, _, _, pt_self _ _, rfl⟩) rfl rfl ?_; intro a hf
              refine rd hf rfl (yl_assign rfl) rfl rfl ?_; intro a hf
              refine rd hf rfl (yl_assign rfl) rfl rfl ?_; intro a hf
              refine rd hf rfl (yl_assign rfl) rfl rfl ?_; intro a hf
              refine plan_nil ?_
              replace hf := hf.sel [6, 5, 4] (l' := [(6, _), (5, _), (4, _)]) rfl
              refine wpIn_ret ?_
              exact body_ret hf (L := [_]) ((hT.brings [4, 4, 4, 4]).tail.tail.tail.tail) rfl rfl ⟨q, out, _, _, _, rfl, hD, rfl, .inr (.inr (.inr ⟨by omega, hxs, hrng, rfl, t, htop, by rw [Nat.sub_self] at hout; rw [← hout]; exact (List.append_nil out).symm, rfl⟩))⟩
end Go.Proofs.Ytjhbgciocffihaa
