-- written by gen.py out of walks texts of my own
import Derived.Test.YtjhbgciocffihaaB19
set_option linter.unusedVariables false
set_option linter.unusedSimpArgs false
set_option maxHeartbeats 4000000
namespace Go.Proofs.Ytjhbgciocffihaa
/-- The reference's buffer as it lies in memory: (cap, time, list). -/
def rbCells (c t : Int) (lv : Value) : List Value := [.int .i64 c, .int .i64 t, lv]
def RB (b : Nat) (c t : Int) (xs : List Hld) (Ls : List Part) : Prop := ∃ lv x, Ls = [pt b (.cells (rbCells c t lv).toArray 68), x] ∧ Sl encHld 44 lv xs x
def RBIn (R : List Part) (b : Nat) (c t : Int) (xs : List Hld) : Prop := ∃ lv, RowIn R b 0 (rbCells c t lv) ∧ Els encHld R lv xs
theorem RB.inn {b : Nat} {c t : Int} {xs : List Hld} {Ls R : List Part} (h : RB b c t xs Ls) (hs : ∀ x ∈ Ls, x ∈ R) : RBIn R b c t xs := by
  obtain ⟨lv, x, rfl, h1⟩ := h
  exact ⟨lv, RowIn.of_block (hs _ (.head _)) (pt_self _ _) (fun j hj => by simp), h1.els (hs _ (.tail _ (.head _)))⟩
theorem RBIn.app {b : Nat} {c t : Int} {xs : List Hld} {R R' : List Part} (h : RBIn R b c t xs) : RBIn (R' ++ R) b c t xs := by
  obtain ⟨lv, h1, h2⟩ := h
  exact ⟨lv, rowIn_app h1, h2.app⟩
theorem rNew_spec {e : Env} {w : World} {rs : List Part} (cap : Int) (hT : Tot e w rs) : Spec Try.prog 23 #[.int .i64 cap] e w rs (fun v L => if 1 ≤ cap ∧ cap ≤ 16777216 then ∃ b, v = .tuple #[.pointer (some ⟨b, 0, none⟩), .int .i64 0] ∧ RB b cap 0 [] L else v = .tuple #[.pointer none, .int .i64 3] ∧ L = []) := by
  refine spec_body Try.func23 rfl Try.ntmps23 rfl rfl ?_
  intro a hf
  refine wpIn_seq ?_
  -- region 0 (ref.go:44)
  refine wp_reg ([]) ([] ++ rs) [(0, true), (1, true)] mixed (by kernel_rfl) (hT) ?_; intro w hT
  refine rd hf rfl (yl_assign rfl) rfl rfl ?_; intro a hf
  refine rd hf rfl (yl_assign rfl) rfl rfl ?_; intro a hf
  refine plan_nil ?_
  refine wpIn_seq ?_
  refine wpIn_seq ?_
  -- region 1 (ref.go:45)
  refine wp_reg ([]) ([] ++ rs) [(0, true), (1, true), (2, true), (3, true), (4, true), (5, true)] mixed (by kernel_rfl) (hT) ?_; intro w hT
  refine rd hf rfl (yl_move rfl) rfl rfl ?_; intro a hf
  refine rd hf rfl (yl_cmp rfl rfl rfl) rfl rfl ?_; intro a hf
  refine rd hf rfl (yl_move rfl) rfl rfl ?_; intro a hf
  by_cases hg2 : cap < 1
  · have hgT1 : decide (cap < 1) = true := by simpa using hg2
    refine rdF hf rfl rfl rfl rfl (by first | exact hgT1 | simp [hgT1]) rfl (l' := [(7, _), (6, _), (5, _), (4, _), (3, _), (2, _), (0, _)]) rfl ?_; intro a hf
    refine rdF hf rfl rfl rfl rfl (by first | exact hgT1 | simp [hgT1]) rfl (l' := [(8, _), (7, _), (6, _), (5, _), (4, _), (3, _), (2, _), (0, _)]) rfl ?_; intro a hf
    refine rd hf rfl (yl_pickTT rfl hgT1 rfl) rfl rfl ?_; intro a hf
    refine plan_nil ?_
    replace hf := hf.sel [9, 0] (l' := [(9, _), (0, _)]) rfl
    refine wp_ifTT hf rfl (rfl) ?_
    refine wpIn_seq ?_
    -- region 2 (ref.go:46)
    refine wp_reg ([]) ([] ++ rs) [(0, true), (1, true)] mixed (by kernel_rfl) (hT) ?_; intro w hT
    refine rd hf rfl (yl_assign rfl) rfl rfl ?_; intro a hf
    refine rd hf rfl (yl_assign rfl) rfl rfl ?_; intro a hf
    refine plan_nil ?_
    refine wpIn_ret ?_
    exact body_ret hf (L := []) hT rfl rfl (by rw [if_neg (by omega)]; exact ⟨rfl, rfl⟩)
  · have hgT1 : decide (cap < 1) = false := by simpa using hg2
    refine rdT hf rfl rfl rfl rfl (by first | exact hgT1 | simp [hgT1]) (yl_move rfl) rfl (l' := [(7, _), (6, _), (5, _), (4, _), (3, _), (2, _), (0, _)]) rfl ?_; intro a hf
    refine rdT hf rfl rfl rfl rfl (by first | exact hgT1 | simp [hgT1]) (yl_cmp rfl rfl rfl) rfl (l' := [(8, _), (7, _), (6, _), (5, _), (4, _), (3, _), (2, _), (0, _)]) rfl ?_; intro a hf
    refine rd hf rfl (yl_pickFF rfl hgT1 rfl) rfl rfl ?_; intro a hf
    refine plan_nil ?_
    replace hf := hf.sel [9, 0] (l' := [(9, _), (0, _)]) rfl
    refine wp_ifd hf rfl (fun h2 => ?_) (fun h2 => ?_)
    · -- then
      refine wpIn_seq ?_
      -- region 2 (ref.go:46)
      refine wp_reg ([]) ([] ++ rs) [(0, true), (1, true)] mixed (by kernel_rfl) (hT) ?_; intro w hT
      refine rd hf rfl (yl_assign rfl) rfl rfl ?_; intro a hf
      refine rd hf rfl (yl_assign rfl) rfl rfl ?_; intro a hf
      refine plan_nil ?_
      refine wpIn_ret ?_
      exact body_ret hf (L := []) hT rfl rfl (by rw [if_neg (by omega)]; exact ⟨rfl, rfl⟩)
    · -- else
      refine wpIn_skip ?_
      refine wpIn_seq ?_
      -- region 3 (ref.go:48)
      refine wp_reg ([]) ([] ++ rs) [(0, true), (1, true), (2, false), (3, true), (4, true)] mixed (by kernel_rfl) (hT) ?_; intro w hT
      refine rd hf rfl (yl_move rfl) rfl rfl ?_; intro a hf
      refine rd hf rfl (yl_build rfl Try.underlying68 zr_68 (places := [(0, 1), (1, 1), (2, 1)]) (by kernel_rfl) (by kernel_rfl) (out := rbCells cap 0 (.slice none 0 0)) rfl) rfl rfl ?_; intro a hf
      refine ef hf hT rfl rfl (ef_box rfl) rfl (l' := [(11, _), (10, _), (9, _), (0, _)]) rfl ?_; rintro a w v L ⟨b1, rfl, rfl⟩ hf hT
      refine rd hf rfl (yl_assign rfl) rfl rfl ?_; intro a hf
      refine rd hf rfl (yl_assign rfl) rfl rfl ?_; intro a hf
      refine plan_nil ?_
      replace hf := hf.sel [3, 2] (l' := [(3, _), (2, _)]) rfl
      refine wpIn_ret ?_
      replace hT := hT.emp
      exact body_ret hf (L := [_, _]) (hT.bring 1) rfl rfl (by rw [if_pos (by omega)]; exact ⟨b1, rfl, _, _, rfl, sl_nil⟩)
theorem rUsed_spec {e : Env} {w : World} {rs : List Part} (b : Nat) (c t : Int) (xs : List Hld) (hB : RBIn rs b c t xs) (hok : ∀ h ∈ xs, h.r.Ok) (hl : xs.length ≤ 1000) (hT : Tot e w rs) : Spec Try.prog 30 #[.pointer (some ⟨b, 0, none⟩)] e w rs (fun v L => v = .int .i64 (sumB xs) ∧ L = []) := by
  refine spec_body Try.func30 rfl Try.ntmps30 rfl rfl ?_
  intro a hf
  obtain ⟨lv, hrow, hE⟩ := hB
  have hlen := hE.len_le
  refine wpIn_seq ?_
  -- region 0 (ref.go:60)
  refine wp_reg ([]) ([] ++ rs) [(0, true)] mixed (by kernel_rfl) (hT) ?_; intro w hT
  refine rd hf rfl (yl_assign rfl) rfl rfl ?_; intro a hf
  refine plan_nil ?_
  refine wpIn_seq ?_
  -- region 1 (ref.go:61)
  refine wp_reg ([]) ([] ++ rs) [(0, true)] mixed (by kernel_rfl) (hT) ?_; intro w hT
  refine rd hf rfl (yl_assign rfl) rfl rfl ?_; intro a hf
  refine plan_nil ?_
  refine wpIn_seq ?_
  refine wpIn_seq ?_
  -- region 2 (ref.go:62)
  refine wp_reg ([]) ([] ++ rs) [(0, true)] mixed (by kernel_rfl) (hT) ?_; intro w hT
  refine rd hf rfl (yl_assign rfl) rfl rfl ?_; intro a hf
  refine plan_nil ?_
  refine wpIn_block ?_
  refine wp_loopS (σ := Nat) (fun k => [(3, .int .i64 (sumB (xs.take k))), (4, .int .i64 (k : Nat))]) [(0, _)] (fun k L => L = [] ∧ k ≤ xs.length) (fun k => xs.length - k) 0 (L := []) (R := [] ++ rs) (hf.sel [3, 4, 0] rfl) (⟨rfl, Nat.zero_le _⟩) hT ?_
  clear hf hT; rintro k a w L hf ⟨rfl, hk⟩ hT
  replace hf : Fr _ [(3, .int .i64 (sumB (xs.take k))), (4, .int .i64 (k : Nat)), (0, _)] _ _ := hf
  refine wpIn_seq ?_
  refine wpIn_seq ?_
  -- region 3 (ref.go:62)
  refine wp_reg ([]) ([] ++ rs) [(0, true), (1, true), (2, true), (3, true), (4, true), (5, true), (6, true)] mixed (by kernel_rfl) (hT) ?_; intro w hT
  refine rd hf rfl (yl_move rfl) rfl rfl ?_; intro a hf
  refine rd hf rfl (yl_move rfl) rfl rfl ?_; intro a hf
  refine rd hf rfl (yl_nil rfl) rfl rfl ?_; intro a hf
  refine rd hf rfl (yl_faddr Try.underlying68 rfl rfl sz_35 (k := 2) rfl) rfl rfl ?_; intro a hf
  refine rd hf rfl (yl_load Try.underlying35 rfl rfl (hrow 2 _ rfl).app) rfl rfl ?_; intro a hf
  refine rd hf rfl (yl_lenE rfl Try.underlying35 hE.app) rfl rfl ?_; intro a hf
  refine rd hf rfl (yl_cmp rfl rfl rfl) rfl rfl ?_; intro a hf
  refine plan_nil ?_
  replace hf := hf.sel [11, 3, 4, 0] (l' := [(11, _), (3, _), (4, _), (0, _)]) rfl
  refine wp_ifd hf rfl (fun hlt => ?_) (fun hlt => ?_)
  · -- then
    have hltk : k < xs.length := by omega
    have hj : xs[k]? = some xs[k] := List.getElem?_eq_getElem hltk
    have hbr := bytes_rng (hok _ (List.getElem_mem hltk))
    have hsr := sumB_rng (L := xs.take k) (fun h hh => hok h (List.mem_of_mem_take hh))
    have htl : (xs.take k).length ≤ 1000 := by rw [List.length_take]; omega
    refine wpIn_skip ?_
    refine wpIn_seq ?_
    refine wpIn_block ?_
    -- region 5 (ref.go:63)
    refine wp_reg ([]) ([] ++ rs) [(0, true), (1, true), (2, true), (3, true), (4, true), (5, true), (6, true), (7, true), (8, false), (9, true), (10, true)] mixed (by kernel_rfl) (hT) ?_; intro w hT
    refine rd hf rfl (yl_move rfl) rfl rfl ?_; intro a hf
    refine rd hf rfl (yl_move rfl) rfl rfl ?_; intro a hf
    refine rd hf rfl (yl_nil rfl) rfl rfl ?_; intro a hf
    refine rd hf rfl (yl_faddr Try.underlying68 rfl rfl sz_35 (k := 2) rfl) rfl rfl ?_; intro a hf
    refine rd hf rfl (yl_load Try.underlying35 rfl rfl (hrow 2 _ rfl).app) rfl rfl ?_; intro a hf
    refine rd hf rfl (yl_move rfl) rfl rfl ?_; intro a hf
    refine rd hf rfl (yl_indexE rfl rfl Try.underlying35 sz_44 hE.app (by omega) (by omega)) rfl rfl ?_; intro a hf
    refine rd hf rfl (yl_loadA Try.underlying44 rfl sz_44 rfl (hE.app.row hj) rfl) rfl rfl ?_; intro a hf
    refine ef_call hf rfl (wanted_none _ _ rfl) rfl rfl (by kernel_rfl) (Spec.frame (L2 := []) (rbytes_spec xs[k] hT)) rfl (l' := [(21, _), (20, _), (19, _), (18, _), (17, _), (16, _), (15, _), (14, _), (11, _), (3, _), (4, _), (0, _)]) rfl ?_; rintro a w v L ⟨L1, ⟨rfl, rfl⟩, rfl⟩ hf hT
    refine rd hf rfl (yl_add rfl rfl (by unfold inI64; omega)) rfl rfl ?_; intro a hf
    refine rw_ hf rfl (yl_assign rfl) rfl (l' := [(3, _), (23, _), (22, _), (21, _), (20, _), (19, _), (18, _), (17, _), (16, _), (15, _), (14, _), (11, _), (4, _), (0, _)]) rfl ?_; intro a hf
    refine plan_nil ?_
    replace hf := hf.sel [3, 4, 0] (l' := [(3, _), (4, _), (0, _)]) rfl
    -- region 4 (ref.go:62)
    refine wp_reg ([]) ([] ++ rs) [(0, true), (1, true), (2, true)] mixed (by kernel_rfl) (hT) ?_; intro w hT
    refine rd hf rfl (yl_move rfl) rfl rfl ?_; intro a hf
    refine rd hf rfl (yl_add rfl rfl (by unfold inI64; omega)) rfl rfl ?_; intro a hf
    refine rw_ hf rfl (yl_assign rfl) rfl (l' := [(4, _), (13, _), (12, _), (3, _), (0, _)]) rfl ?_; intro a hf
    refine plan_nil ?_
    exact ⟨k + 1, _, (by have h := hf.sel [3, 4, 0] (l' := [(3, _), (4, _), (0, _)]) rfl; rw [sumB_take hltk]; exact h), ⟨rfl, by omega⟩, hT, by first | omega | (dsimp only; omega)⟩
  · -- else
    obtain rfl : k = xs.length := by omega
    refine wpIn_exit ?_
    refine then_exit ?_
    refine then_exit ?_
    refine inBlock_hit ?_
    refine wpIn_seq ?_
    -- region 6 (ref.go:65)
    refine wp_reg ([]) ([] ++ rs) [(0, true), (1, true)] mixed (by kernel_rfl) (hT) ?_; intro w hT
    refine rd hf rfl (yl_move rfl) rfl rfl ?_; intro a hf
    refine rd hf rfl (yl_assign rfl) rfl rfl ?_; intro a hf
    refine plan_nil ?_
    replace hf := hf.sel [2] (l' := [(2, _)]) rfl
    refine wpIn_ret ?_
    exact body_ret hf (L := []) hT rfl rfl ⟨by rw [List.take_length]; rfl, rfl⟩
end Go.Proofs.Ytjhbgciocffihaa
