-- written by gen.py out of walks texts of my own
import Derived.Test.YtjhbgciocffihaaB33
import Derived.Test.YtjhbgciocffihaaB4
set_option linter.unusedVariables false
set_option linter.unusedSimpArgs false
set_option maxHeartbeats 4000000
namespace Go.Proofs.Ytjhbgciocffihaa
theorem subs1_spec {e : Env} (bl bo bw bh : Nat) (lv : Value) (xs : List Pcl) (hxs : ∀ x ∈ xs, Pok x) (o : Nat) (hxo : xs.length ≤ o) (ho : o ≤ 24) (hi : Int) (hhi : hi = (o : Int) - 1) : ∀ (n i : Nat), xs.length - i = n → i ≤ xs.length → ∀ (c : Ch) (q : Value) (acc : List Ch) (X : Part) (w : World) (rs : List Part), Els encPl rs lv xs → RowIn rs bl 0 [lv] → RowIn rs bw 0 [.func (.func 103) #[] #[.pointer (some ⟨bl, 0, none⟩), .pointer (some ⟨bo, 0, none⟩), .pointer (some ⟨bw, 0, none⟩), .pointer (some ⟨bh, 0, none⟩)]] → RowIn rs bh 0 [.int .i64 hi] →
    2 ^ (o - i) ∣ c.b → c.b + 2 ^ (o - i) ≤ 2 ^ o → 0 ≤ c.w → c.w ≤ 1048576 * (i : Int) → 0 ≤ c.s → c.s ≤ 16777216 * (i : Int) → acc.length + 2 ^ (xs.length - i) ≤ 8192 → Sl encCh 139 q acc X → Tot e w ([pt bo (.cells #[q] 135), X] ++ rs) →
    Spec Try.prog 103 #[.int .i64 (i : Nat), encC c, .pointer (some ⟨bl, 0, none⟩), .pointer (some ⟨bo, 0, none⟩), .pointer (some ⟨bw, 0, none⟩), .pointer (some ⟨bh, 0, none⟩)] e w rs (fun v L => v = .tuple #[] ∧ ∃ q' X', Sl encCh 139 q' (acc ++ (all (xs.drop i) (o - i)).map c.add) X' ∧ L = [pt bo (.cells #[q'] 135), X']) := by
  intro n
  induction n using Nat.strongRecOn with
  | _ n ih =>
  intro i hin hile c q acc X w rs hE hbl hbw hbh hd hcb hw1 hw2 hs1 hs2 hlen hQ hT
  subst hin
  have hpp := Nat.pow_pos (n := xs.length - i) (show 0 < 2 by decide)
  refine spec_body Try.func103 rfl Try.ntmps103 rfl rfl ?_
  intro a hf
  refine wpIn_seq ?_
  -- region 0 (best.go:26)
  refine wp_reg ([]) ([_, _] ++ rs) [(0, false)] mixed (by kernel_rfl) (hT) ?_; intro w hT
  refine ef hf hT rfl rfl (ef_box rfl) rfl (l' := [(0, _), (1, _), (2, _), (3, _), (4, _), (5, _)]) rfl ?_; rintro a w v L ⟨b1, rfl, rfl⟩ hf hT
  refine plan_nil ?_
  refine wpIn_seq ?_
  refine wpIn_seq ?_
  -- region 1 (best.go:27)
  refine wp_reg ([]) ([_, _, _] ++ rs) [(0, true), (1, true), (2, true), (3, true)] mixed (by kernel_rfl) (hT) ?_; intro w hT
  refine rd hf rfl (yl_move rfl) rfl rfl ?_; intro a hf
  refine rd hf rfl (yl_load Try.underlying81 rfl rfl (hbl 0 _ rfl).app) rfl rfl ?_; intro a hf
  refine rd hf rfl (yl_lenE rfl Try.underlying81 hE.app) rfl rfl ?_; intro a hf
  refine rd hf rfl (yl_cmp rfl rfl rfl) rfl rfl ?_; intro a hf
  refine plan_nil ?_
  replace hf := hf.sel [11, 7, 0, 2, 3, 4, 5] (l' := [(11, _), (7, _), (0, _), (2, _), (3, _), (4, _), (5, _)]) rfl
  refine wp_ifd hf rfl (fun heq => ?_) (fun heq => ?_)
  · -- then
    have hin : xs.length ≤ i := by omega
    refine wpIn_seq ?_
    -- region 2 (best.go:28)
    refine wp_reg ([_]) ([_, _] ++ rs) [(0, true), (1, true), (2, false), (3, false), (4, false)] mixed (by kernel_rfl) (hT.brings [2]) ?_; intro w hT
    refine rd hf rfl (yl_load Try.underlying135 rfl rfl ⟨_, .tail _ (.head _), _, _, _, pt_self _ _, rfl⟩) rfl rfl ?_; intro a hf
    refine rd hf rfl (yl_loadB Try.underlying139 rfl sz_139 (.head _) rfl (pt_self _ _) rfl rfl) rfl rfl ?_; intro a hf
    refine ef hf hT rfl rfl (ef_buildSlice (E := encCh) (xs := [c]) rfl rfl Try.underlying135 zs_139 rfl (by decide) rfl (by decide)) rfl (l' := [(13, _), (12, _), (11, _), (7, _), (0, _), (2, _), (3, _), (4, _), (5, _)]) rfl ?_; rintro a w one L ⟨b2, p1, hvp1, hp1, rfl⟩ hf hT
    replace hT : Tot _ _ ([_, _] ++ ([_, _] ++ rs)) := hT.bring 1
    refine ef hf hT rfl rfl (ef_append (E := encCh) (L := [_]) rfl rfl Try.underlying135 zb_139 rfl hQ (hp1.els (.tail _ (.head _))) (by simp; omega) (by simp [maxLen]; omega)) rfl (l' := [(14, _), (13, _), (12, _), (11, _), (7, _), (0, _), (2, _), (3, _), (4, _), (5, _)]) rfl ?_; rintro a w q2 L ⟨X1, hS1, rfl⟩ hf hT
    replace hT : Tot _ _ ([_, _, _] ++ ([_] ++ rs)) := hT.bring 3
    refine efS_last hf hT rfl rfl (by kernel_rfl) (ef_store rfl rfl sz_135 hS1.one rfl) ?_; rintro w L rfl hT
    replace hf := hf.sel [] (l' := []) rfl
    refine wpIn_ret ?_
    exact body_ret hf (L := [_, _]) ((hT.brings [3, 3]).tail.tail) rfl rfl ⟨rfl, q2, _, by rw [all_end hin]; exact hS1, rfl⟩
  · -- else
    have hlt : i < xs.length := by omega
    obtain ⟨x, hj⟩ : ∃ x, xs[i]? = some x := ⟨xs[i], List.getElem?_eq_getElem hlt⟩
    have hpx := hxs x (List.mem_of_getElem? hj)
    obtain ⟨p1, p2, p3, p4⟩ := hpx
    have hpw := pow_succ' (o - i - 1)
    rw [show o - i - 1 + 1 = o - i by omega] at hpw
    have hpl := pow_succ' (xs.length - i - 1)
    rw [show xs.length - i - 1 + 1 = xs.length - i by omega] at hpl
    have hpo : 2 ^ o ≤ 2 ^ 24 := Nat.pow_le_pow_right (by decide) ho
    have hor : c.b ||| 2 ^ (o - i - 1) = c.b + 2 ^ (o - i - 1) := or_add (k := o - i) hd (by have := Nat.pow_pos (n := o - i - 1) (show 0 < 2 by decide); omega)
    have hall : (all (xs.drop (i + 1)) (o - (i + 1))).length = 2 ^ (xs.length - i - 1) := by rw [all_len, List.length_drop]; congr 1
    refine wpIn_skip ?_
    refine wpIn_seq ?_
    -- region 3 (best.go:31)
    refine wp_reg ([_, _]) ([_] ++ rs) [(0, true), (1, true), (2, true), (3, true), (4, false)] mixed (by kernel_rfl) (hT.brings [2, 2]) ?_; intro w hT
    refine rd hf rfl (yl_load Try.underlying165 rfl rfl (hbw 0 _ rfl).app) rfl rfl ?_; intro a hf
    refine rd hf rfl (yl_move rfl) rfl rfl ?_; intro a hf
    refine rd hf rfl (yl_add rfl rfl (by unfold inI64; omega)) rfl rfl ?_; intro a hf
    refine rd hf rfl (yl_loadB Try.underlying139 rfl sz_139 (.head _) rfl (pt_self _ _) rfl rfl) rfl rfl ?_; intro a hf
    replace hT : Tot _ _ ([_, _] ++ ([_] ++ rs)) := hT.bring 1
    replace hT : Tot _ _ ([_, _] ++ ([_] ++ rs)) := hT.bring 1
    refine ef_call hf rfl (wanted_none _ _ rfl) rfl rfl (by kernel_rfl) (Spec.frame (L2 := []) (ih (xs.length - (i + 1)) (by omega) (i + 1) rfl (by omega) c q acc _ _ ([_] ++ rs) hE.app (rowIn_app hbl) (rowIn_app hbw) (rowIn_app hbh) (Nat.dvd_trans (Nat.pow_dvd_pow 2 (by omega)) hd) (by rw [show o - (i + 1) = o - i - 1 by omega]; omega) hw1 (by omega) hs1 (by omega) (by rw [show xs.length - (i + 1) = xs.length - i - 1 by omega]; omega) hQ hT)) rfl (l' := [(19, _), (18, _), (17, _), (16, _), (11, _), (7, _), (0, _), (2, _), (3, _), (4, _), (5, _)]) rfl ?_; rintro a w v L ⟨L1, ⟨rfl, q2, X, hQ2, rfl⟩, rfl⟩ hf hT
    refine plan_nil ?_
    replace hf := hf.sel [7, 0, 2, 4, 5] (l' := [(7, _), (0, _), (2, _), (4, _), (5, _)]) rfl
    -- region 4 (best.go:32)
    refine wp_reg ([_, _]) ([_] ++ rs) [(0, true), (1, true), (2, true), (3, true), (4, true), (5, true), (6, true), (7, true), (8, true), (9, true), (10, true), (11, true), (12, true), (13, true), (14, true), (15, true), (16, true), (17, true), (18, true), (19, true), (20, true), (21, true), (22, true), (23, true), (24, true), (25, true), (26, true), (27, false)] mixed (by kernel_rfl) (hT.brings [1, 1]) ?_; intro w hT
    refine rd hf rfl (yl_load Try.underlying165 rfl rfl (hbw 0 _ rfl).app) rfl rfl ?_; intro a hf
    refine rd hf rfl (yl_move rfl) rfl rfl ?_; intro a hf
    refine rd hf rfl (yl_add rfl rfl (by unfold inI64; omega)) rfl rfl ?_; intro a hf
    refine rd hf rfl (yl_faddr Try.underlying139 rfl rfl sz_87 (k := 0) rfl) rfl rfl ?_; intro a hf
    refine rd hf rfl (yl_load Try.underlying87 rfl rfl ⟨_, .head _, _, _, _, pt_self _ _, rfl⟩) rfl rfl ?_; intro a hf
    refine rd hf rfl (yl_load Try.underlying3 rfl rfl (hbh 0 _ rfl).app) rfl rfl ?_; intro a hf
    refine rd hf rfl (yl_move rfl) rfl rfl ?_; intro a hf
    refine rd hf rfl (yl_sub rfl rfl (by unfold inI64; omega)) rfl rfl ?_; intro a hf
    refine rd hf rfl (yl_shl1 (o - i - 1) rfl rfl (by omega) (by omega)) rfl rfl ?_; intro a hf
    refine rd hf rfl (yl_or rfl rfl c.b (2 ^ (o - i - 1)) rfl rfl (by omega) (by omega)) rfl rfl ?_; intro a hf
    refine rd hf rfl (yl_faddr Try.underlying139 rfl rfl sz_2 (k := 1) rfl) rfl rfl ?_; intro a hf
    refine rd hf rfl (yl_load Try.underlying2 rfl rfl ⟨_, .head _, _, _, _, pt_self _ _, rfl⟩) rfl rfl ?_; intro a hf
    refine rd hf rfl (yl_load Try.underlying81 rfl rfl (hbl 0 _ rfl).app) rfl rfl ?_; intro a hf
    refine rd hf rfl (yl_move rfl) rfl rfl ?_; intro a hf
    refine rd hf rfl (yl_indexE rfl rfl Try.underlying81 sz_90 hE.app (by omega) (by omega)) rfl rfl ?_; intro a hf
    refine rd hf rfl (yl_faddr Try.underlying90 rfl rfl sz_2 rfl) rfl rfl ?_; intro a hf
    refine rd hf rfl (yl_load Try.underlying2 rfl rfl (hE.app.cell hj (f := 1) rfl)) rfl rfl ?_; intro a hf
    refine rd hf rfl (yl_add rfl rfl (by unfold inI64; omega)) rfl rfl ?_; intro a hf
    refine rd hf rfl (yl_faddr Try.underlying139 rfl rfl sz_2 (k := 2) rfl) rfl rfl ?_; intro a hf
    refine rd hf rfl (yl_load Try.underlying2 rfl rfl ⟨_, .head _, _, _, _, pt_self _ _, rfl⟩) rfl rfl ?_; intro a hf
    refine rd hf rfl (yl_load Try.underlying81 rfl rfl (hbl 0 _ rfl).app) rfl rfl ?_; intro a hf
    refine rd hf rfl (yl_move rfl) rfl rfl ?_; intro a hf
    refine rd hf rfl (yl_indexE rfl rfl Try.underlying81 sz_90 hE.app (by omega) (by omega)) rfl rfl ?_; intro a hf
    refine rd hf rfl (yl_faddr Try.underlying90 rfl rfl sz_2 rfl) rfl rfl ?_; intro a hf
    refine rd hf rfl (yl_load Try.underlying2 rfl rfl (hE.app.cell hj (f := 0) rfl)) rfl rfl ?_; intro a hf
    refine rd hf rfl (yl_add rfl rfl (by unfold inI64; omega)) rfl rfl ?_; intro a hf
    refine rd hf rfl (yl_build rfl Try.underlying139 zr_139 (places := [(0, 1), (1, 1), (2, 1)]) (by kernel_rfl) (by kernel_rfl) rfl) rfl rfl ?_; intro a hf
    replace hT : Tot _ _ ([_, _] ++ ([_] ++ rs)) := hT.bring 1
    replace hT : Tot _ _ ([_, _] ++ ([_] ++ rs)) := hT.bring 1
    refine ef_call hf rfl (wanted_none _ _ rfl) rfl rfl (by kernel_rfl) (Spec.frame (L2 := []) (ih (xs.length - (i + 1)) (by omega) (i + 1) rfl (by omega) (⟨c.b ||| 2 ^ (o - i - 1), c.w + x.wo, c.s + x.sz⟩ : Ch) q2 (acc ++ (all (xs.drop (i + 1)) (o - (i + 1))).map c.add) _ _ ([_] ++ rs) hE.app (rowIn_app hbl) (rowIn_app hbw) (rowIn_app hbh) (by show 2 ^ _ ∣ c.b ||| _; rw [hor, show o - (i + 1) = o - i - 1 by omega]; exact Nat.dvd_add (Nat.dvd_trans (Nat.pow_dvd_pow 2 (by omega)) hd) (Nat.dvd_refl _)) (by show (c.b ||| _) + _ ≤ _; rw [hor, show o - (i + 1) = o - i - 1 by omega]; omega) (by show 0 ≤ c.w + x.wo; omega) (by show c.w + x.wo ≤ _; omega) (by show 0 ≤ c.s + x.sz; omega) (by show c.s + x.sz ≤ _; omega) (by rw [show xs.length - (i + 1) = xs.length - i - 1 by omega, List.length_append, List.length_map, hall]; omega) hQ2 hT)) rfl (l' := [(47, _), (46, _), (45, _), (44, _), (43, _), (42, _), (41, _), (40, _), (39, _), (38, _), (37, _), (36, _), (35, _), (34, _), (33, _), (32, _), (31, _), (30, _), (29, _), (28, _), (27, _), (26, _), (25, _), (24, _), (23, _), (22, _), (21, _), (7, _), (0, _), (2, _), (4, _), (5, _)]) rfl ?_; rintro a w v L ⟨L1, ⟨rfl, q3, X, hQ3, rfl⟩, rfl⟩ hf hT
    refine plan_nil ?_
    replace hf := hf.sel [] (l' := []) rfl
    exact body_ret hf (L := [_, _]) ((hT.brings [2]).tail) rfl rfl ⟨rfl, q3, _, by rw [all_step hj o c (⟨c.b ||| 2 ^ (o - i - 1), c.w + x.wo, c.s + x.sz⟩ : Ch) (Ch.ext' hor rfl rfl), ← List.append_assoc]; exact hQ3, rfl⟩
end Go.Proofs.Ytjhbgciocffihaa
