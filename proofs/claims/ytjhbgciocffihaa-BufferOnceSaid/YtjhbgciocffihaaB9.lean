-- written by gen.py out of walks texts of my own
import Derived.Test.YtjhbgciocffihaaB8
import Derived.Test.YtjhbgciocffihaaK8
set_option linter.unusedVariables false
set_option linter.unusedSimpArgs false
set_option maxHeartbeats 4000000
namespace Go.Proofs.Ytjhbgciocffihaa
theorem eqR (a b : Rec) : EqV Try.prog 2 31 (encR a) (encR b) (decide (a = b)) := by
  rw [show (decide (a = b)) = (decide (a.id = b.id) && (decide (a.cls = b.cls) && (decide (a.made = b.made) && (decide (a.size = b.size) && (decide (a.packed = b.packed) && true))))) by obtain ⟨_, _, _, _, _⟩ := a; obtain ⟨_, _, _, _, _⟩ := b; simp [Rec.mk.injEq, Bool.decide_and]]
  refine eqv_struct Try.underlying31 (by kernel_rfl) ?_
  refine eqf_cons (by decide) Try.underlying2 rfl rfl rfl (eqv_int Try.underlying2 0 _ _) ?_
  refine eqf_cons (by decide) Try.underlying3 rfl rfl rfl (eqv_int Try.underlying3 0 _ _) ?_
  refine eqf_cons (by decide) Try.underlying2 rfl rfl rfl (eqv_int Try.underlying2 0 _ _) ?_
  refine eqf_cons (by decide) Try.underlying2 rfl rfl rfl (eqv_int Try.underlying2 0 _ _) ?_
  refine eqf_cons (by decide) Try.underlying2 rfl rfl rfl (eqv_int Try.underlying2 0 _ _) ?_
  exact eqf_nil
theorem eqH (a b : Hld) : EqV Try.prog 3 44 (encH a) (encH b) (decide (a = b)) := by
  rw [show (decide (a = b)) = (decide (a.r = b.r) && (decide (a.small = b.small) && (decide (a.sent = b.sent) && true))) by obtain ⟨_, _, _⟩ := a; obtain ⟨_, _, _⟩ := b; simp [Hld.mk.injEq, Bool.decide_and]]
  refine eqv_struct Try.underlying44 (by kernel_rfl) ?_
  refine eqf_consA (by decide) Try.underlying31 rfl sz_31 rfl rfl (eqR a.r b.r) ?_
  refine eqf_cons (by decide) Try.underlying4 rfl rfl rfl (eqv_bool Try.underlying4 1 _ _) ?_
  refine eqf_cons (by decide) Try.underlying2 rfl rfl rfl (eqv_int Try.underlying2 1 _ _) ?_
  exact eqf_nil
theorem lbytes_spec {e : Env} {w : World} {rs : List Part} (h : Hld) (hT : Tot e w rs) : Spec Try.prog 18 #[encH h] e w rs (fun v L => v = .int .i64 h.bytes ∧ L = []) := by
  refine spec_body Try.func18 rfl Try.ntmps18 rfl rfl ?_
  intro a hf
  refine wpIn_seq ?_
  -- region 0 (outright.go:32)
  refine wp_reg ([]) ([] ++ rs) [(0, false), (1, true)] mixed (by kernel_rfl) (hT) ?_; intro w hT
  refine ef hf hT rfl rfl (ef_box rfl) rfl (l' := [(0, _)]) rfl ?_; rintro a w v L ⟨b1, rfl, rfl⟩ hf hT
  refine rd hf rfl (yl_assign rfl) rfl rfl ?_; intro a hf
  refine plan_nil ?_
  refine wpIn_seq ?_
  refine wpIn_seq ?_
  -- region 1 (outright.go:33)
  refine wp_reg ([]) ([_] ++ rs) [(0, true), (1, true)] mixed (by kernel_rfl) (hT) ?_; intro w hT
  refine rd hf rfl (yl_faddr Try.underlying44 rfl rfl sz_4 (k := 5) rfl) rfl rfl ?_; intro a hf
  refine rd hf rfl (yl_load Try.underlying4 rfl rfl ⟨_, .head _, _, _, _, pt_self _ _, rfl⟩) rfl rfl ?_; intro a hf
  refine plan_nil ?_
  replace hf := hf.sel [4, 1] (l' := [(4, _), (1, _)]) rfl
  refine wp_if hf rfl (fun hsm => ?_) (fun hsm => ?_)
  · -- then
    refine wpIn_seq ?_
    -- region 2 (outright.go:34)
    refine wp_reg ([]) ([_] ++ rs) [(0, true), (1, true), (2, true), (3, true)] mixed (by kernel_rfl) (hT) ?_; intro w hT
    refine rd hf rfl (yl_faddr Try.underlying44 rfl rfl sz_31 (k := 0) rfl) rfl rfl ?_; intro a hf
    refine rd hf rfl (yl_faddr Try.underlying31 rfl rfl sz_2 (k := 4) rfl) rfl rfl ?_; intro a hf
    refine rd hf rfl (yl_load Try.underlying2 rfl rfl ⟨_, .head _, _, _, _, pt_self _ _, rfl⟩) rfl rfl ?_; intro a hf
    refine rd hf rfl (yl_assign rfl) rfl rfl ?_; intro a hf
    refine plan_nil ?_
    replace hf := hf.sel [2] (l' := [(2, _)]) rfl
    refine wpIn_ret ?_
    exact body_ret hf (L := []) hT.tail rfl rfl ⟨by simp only [retv, Hld.bytes, hsm]; rfl, rfl⟩
  · -- else
    refine wpIn_skip ?_
    refine wpIn_seq ?_
    -- region 3 (outright.go:36)
    refine wp_reg ([]) ([_] ++ rs) [(0, true), (1, true), (2, true), (3, true)] mixed (by kernel_rfl) (hT) ?_; intro w hT
    refine rd hf rfl (yl_faddr Try.underlying44 rfl rfl sz_31 (k := 0) rfl) rfl rfl ?_; intro a hf
    refine rd hf rfl (yl_faddr Try.underlying31 rfl rfl sz_2 (k := 3) rfl) rfl rfl ?_; intro a hf
    refine rd hf rfl (yl_load Try.underlying2 rfl rfl ⟨_, .head _, _, _, _, pt_self _ _, rfl⟩) rfl rfl ?_; intro a hf
    refine rd hf rfl (yl_assign rfl) rfl rfl ?_; intro a hf
    refine plan_nil ?_
    replace hf := hf.sel [2] (l' := [(2, _)]) rfl
    refine wpIn_ret ?_
    exact body_ret hf (L := []) hT.tail rfl rfl ⟨by simp only [retv, Hld.bytes, hsm]; rfl, rfl⟩
theorem lesser_spec {e : Env} {w : World} {rs : List Part} (r1 r2 : Rec) (h1 : r1.Ok) (h2 : r2.Ok) (hT : Tot e w rs) : Spec Try.prog 19 #[encR r1, encR r2] e w rs (fun v L => v = .bool (decide (0 < cmpR r1 r2)) ∧ L = []) := by
  refine spec_body Try.func19 rfl Try.ntmps19 rfl rfl ?_
  intro a hf
  refine wpIn_seq ?_
  -- region 0 (outright.go:26)
  refine wp_reg ([]) ([] ++ rs) [(0, false), (1, false), (2, true)] mixed (by kernel_rfl) (hT) ?_; intro w hT
  refine ef hf hT rfl rfl (ef_box rfl) rfl (l' := [(0, _), (1, _)]) rfl ?_; rintro a w v L ⟨b1, rfl, rfl⟩ hf hT
  refine ef hf hT rfl rfl (ef_box rfl) rfl (l' := [(2, _), (0, _), (1, _)]) rfl ?_; rintro a w v L ⟨b2, rfl, rfl⟩ hf hT
  refine rd hf rfl (yl_assign rfl) rfl rfl ?_; intro a hf
  refine plan_nil ?_
  replace hf := hf.sel [3, 2] (l' := [(3, _), (2, _)]) rfl
  refine wpIn_seq ?_
  -- region 1 (outright.go:27)
  refine wp_reg ([]) ([_, _] ++ rs) [(0, true), (1, true), (2, false), (3, true), (4, true), (5, true), (6, true), (7, true)] mixed (by kernel_rfl) (hT) ?_; intro w hT
  refine rd hf rfl (yl_loadB Try.underlying31 rfl sz_31 (vs := r1.cells) (.tail _ (.head _)) rfl (pt_self _ _) rfl rfl) rfl rfl ?_; intro a hf
  refine rd hf rfl (yl_loadB Try.underlying31 rfl sz_31 (vs := r2.cells) (.head _) rfl (pt_self _ _) rfl rfl) rfl rfl ?_; intro a hf
  refine ef_call hf rfl (wanted_none _ _ rfl) rfl rfl (by kernel_rfl) (Spec.frame (L2 := []) ((Less_spec r1 r2 hT).mono (fun v L h => by rw [if_pos ⟨h1, h2⟩] at h; exact h))) rfl (l' := [(9, _), (8, _), (3, _), (2, _)]) rfl ?_; rintro a w v L ⟨L1, ⟨rfl, rfl⟩, rfl⟩ hf hT
  refine rd hf rfl (yl_move rfl) rfl rfl ?_; intro a hf
  refine rd hf rfl (yl_extract rfl rfl) rfl rfl ?_; intro a hf
  refine rd hf rfl (yl_extract rfl rfl) rfl rfl ?_; intro a hf
  refine rd hf rfl (yl_assign rfl) rfl rfl ?_; intro a hf
  refine rd hf rfl (yl_assign rfl) rfl rfl ?_; intro a hf
  refine plan_nil ?_
  replace hf := hf.sel [6, 5] (l' := [(6, _), (5, _)]) rfl
  refine wpIn_seq ?_
  -- region 2 (outright.go:28)
  refine wp_reg ([]) ([_, _] ++ rs) [(0, true), (1, true), (2, true), (3, true), (4, true), (5, true)] mixed (by kernel_rfl) (hT) ?_; intro w hT
  refine rd hf rfl (yl_move rfl) rfl rfl ?_; intro a hf
  refine rd hf rfl (yl_cmp rfl rfl rfl) rfl rfl ?_; intro a hf
  refine rd hf rfl (yl_move rfl) rfl rfl ?_; intro a hf
  refine rdT hf rfl rfl rfl rfl (rfl) (yl_move rfl) rfl (l' := [(16, _), (15, _), (14, _), (13, _), (6, _), (5, _)]) rfl ?_; intro a hf
  refine rd hf rfl (yl_pickTT rfl rfl rfl) rfl rfl ?_; intro a hf
  refine rd hf rfl (yl_assign rfl) rfl rfl ?_; intro a hf
  refine plan_nil ?_
  replace hf := hf.sel [4] (l' := [(4, _)]) rfl
  refine wpIn_ret ?_
  exact body_ret hf (L := []) hT.tail.tail rfl rfl ⟨rfl, rfl⟩
theorem find_spec {e : Env} {w : World} {rs : List Part} (xs : List Hld) (id : Int) (v0 : Value) (hE : Els encHld rs v0 xs) (hT : Tot e w rs) : Spec Try.prog 17 #[v0, .int .i64 id] e w rs (fun v L => ∃ j : Int, v = .int .i64 j ∧ ((∃ i, ∃ hi : i < xs.length, j = (i : Nat) ∧ xs[i].r.id = id) ∨ (j = -1 ∧ id ∉ ids xs)) ∧ L = []) := by
  refine spec_body Try.func17 rfl Try.ntmps17 rfl rfl ?_
  intro a hf
  refine wpIn_seq ?_
  -- region 0 (outright.go:40)
  refine wp_reg ([]) ([] ++ rs) [(0, true)] mixed (by kernel_rfl) (hT) ?_; intro w hT
  refine rd hf rfl (yl_assign rfl) rfl rfl ?_; intro a hf
  refine plan_nil ?_
  refine wpIn_seq ?_
  refine wpIn_seq ?_
  -- region 1 (outright.go:41)
  refine wp_reg ([]) ([] ++ rs) [(0, true)] mixed (by kernel_rfl) (hT) ?_; intro w hT
  refine rd hf rfl (yl_assign rfl) rfl rfl ?_; intro a hf
  refine plan_nil ?_
  refine wpIn_block ?_
  have hlen := hE.len_le
  refine wp_loopS (σ := Nat) (fun k => [(5, .int .i64 (k : Nat))]) [(0, _), (1, _)] (fun k L => L = [] ∧ k ≤ xs.length ∧ ∀ j (hj : j < k) (hl : j < xs.length), xs[j].r.id ≠ id) (fun k => xs.length - k) 0 (L := []) (R := [] ++ rs) (hf.sel [5, 0, 1] rfl) (⟨rfl, Nat.zero_le _, fun j hj => absurd hj (by omega)⟩) hT ?_
  clear hf hT; rintro k a w L hf ⟨rfl, hk, hno⟩ hT
  replace hf : Fr _ [(5, .int .i64 (k : Nat)), (0, _), (1, _)] _ _ := hf
  refine wpIn_seq ?_
  refine wpIn_seq ?_
  -- region 2 (outright.go:41)
  refine wp_reg ([]) ([] ++ rs) [(0, true), (1, true), (2, true), (3, true)] mixed (by kernel_rfl) (hT) ?_; intro w hT
  refine rd hf rfl (yl_move rfl) rfl rfl ?_; intro a hf
  refine rd hf rfl (yl_move rfl) rfl rfl ?_; intro a hf
  refine rd hf rfl (yl_lenE rfl Try.underlying35 hE.app) rfl rfl ?_; intro a hf
  refine rd hf rfl (yl_cmp rfl rfl rfl) rfl rfl ?_; intro a hf
  refine plan_nil ?_
  replace hf := hf.sel [9, 5, 0, 1] (l' := [(9, _), (5, _), (0, _), (1, _)]) rfl
  refine wp_ifd hf rfl (fun hlt => ?_) (fun hlt => ?_)
  · -- then
    have hlt' : k < xs.length := by omega
    have hj : xs[k]? = some xs[k] := List.getElem?_eq_getElem hlt'
    refine wpIn_skip ?_
    refine wpIn_seq ?_
    refine wpIn_block ?_
    refine wpIn_seq ?_
    -- region 4 (outright.go:42)
    refine wp_reg ([]) ([] ++ rs) [(0, true), (1, true), (2, true), (3, true), (4, true), (5, true), (6, true), (7, true)] mixed (by kernel_rfl) (hT) ?_; intro w hT
    refine rd hf rfl (yl_move rfl) rfl rfl ?_; intro a hf
    refine rd hf rfl (yl_move rfl) rfl rfl ?_; intro a hf
    refine rd hf rfl (yl_indexE rfl rfl Try.underlying35 sz_44 hE.app (by omega) (by omega)) rfl rfl ?_; intro a hf
    refine rd hf rfl (yl_faddr Try.underlying44 rfl rfl sz_31 rfl) rfl rfl ?_; intro a hf
    refine rd hf rfl (yl_faddr Try.underlying31 rfl rfl sz_2 rfl) rfl rfl ?_; intro a hf
    refine rd hf rfl (yl_load Try.underlying2 rfl rfl (hE.app.cell hj (f := 0) rfl)) rfl rfl ?_; intro a hf
    refine rd hf rfl (yl_move rfl) rfl rfl ?_; intro a hf
    refine rd hf rfl (yl_cmp rfl rfl rfl) rfl rfl ?_; intro a hf
    refine plan_nil ?_
    replace hf := hf.sel [19, 5, 0, 1] (l' := [(19, _), (5, _), (0, _), (1, _)]) rfl
    refine wp_ifd hf rfl (fun hne => ?_) (fun hne => ?_)
    · -- then
      refine wpIn_seq ?_
      -- region 5 (outright.go:43)
      refine wp_reg ([]) ([] ++ rs) [(0, true), (1, true)] mixed (by kernel_rfl) (hT) ?_; intro w hT
      refine rd hf rfl (yl_move rfl) rfl rfl ?_; intro a hf
      refine rd hf rfl (yl_assign rfl) rfl rfl ?_; intro a hf
      refine plan_nil ?_
      replace hf := hf.sel [4] (l' := [(4, _)]) rfl
      refine wpIn_ret ?_
      exact body_ret hf (L := []) hT rfl rfl ⟨(k : Int), rfl, .inl ⟨k, hlt', rfl, hne⟩, rfl⟩
    · -- else
      refine wpIn_skip ?_
      -- region 3 (outright.go:41)
      refine wp_reg ([]) ([] ++ rs) [(0, true), (1, true), (2, true)] mixed (by kernel_rfl) (hT) ?_; intro w hT
      refine rd hf rfl (yl_move rfl) rfl rfl ?_; intro a hf
      refine rd hf rfl (yl_add rfl rfl (by unfold inI64; omega)) rfl rfl ?_; intro a hf
      refine rw_ hf rfl (yl_assign rfl) rfl (l' := [(5, _), (11, _), (10, _), (19, _), (0, _), (1, _)]) rfl ?_; intro a hf
      refine plan_nil ?_
      replace hf := hf.sel [5, 0, 1] (l' := [(5, _), (0, _), (1, _)]) rfl
      exact ⟨k + 1, _, hf.sel [5, 0, 1] rfl, ⟨rfl, by omega, fun j hj hl => by by_cases hjk : j = k; subst hjk; exact hne; exact hno j (by omega) hl⟩, hT, by first | omega | (dsimp only; omega)⟩
  · -- else
    obtain rfl : k = xs.length := by omega
    refine wpIn_exit ?_
    refine then_exit ?_
    refine then_exit ?_
    refine inBlock_hit ?_
    refine wpIn_seq ?_
    -- region 6 (outright.go:46)
    refine wp_reg ([]) ([] ++ rs) [(0, true)] mixed (by kernel_rfl) (hT) ?_; intro w hT
    refine rd hf rfl (yl_assign rfl) rfl rfl ?_; intro a hf
    refine plan_nil ?_
    replace hf := hf.sel [4] (l' := [(4, _)]) rfl
    refine wpIn_ret ?_
    exact body_ret hf (L := []) hT rfl rfl ⟨-1, rfl, .inr ⟨rfl, fun hm => by obtain ⟨h, hh, he⟩ := List.mem_map.1 hm; obtain ⟨j, hj, rfl⟩ := List.getElem_of_mem hh; exact hno j hj hj he⟩, rfl⟩
theorem held_spec {e : Env} {w : World} {rs : List Part} (xs ys : List Hld) (v0 v1 : Value) (hE : Els encHld rs v0 xs) (hE1 : Els encHld rs v1 ys) (hT : Tot e w rs) : Spec Try.prog 16 #[v0, v1] e w rs (fun v L => v = .bool (decide (xs = ys)) ∧ L = []) := by
  refine spec_body Try.func16 rfl Try.ntmps16 rfl rfl ?_
  intro a hf
  refine wpIn_seq ?_
  -- region 0 (law.go:65)
  refine wp_reg ([]) ([] ++ rs) [(0, true)] mixed (by kernel_rfl) (hT) ?_; intro w hT
  refine rd hf rfl (yl_assign rfl) rfl rfl ?_; intro a hf
  refine plan_nil ?_
  refine wpIn_seq ?_
  refine wpIn_seq ?_
  -- region 1 (law.go:66)
  refine wp_reg ([]) ([] ++ rs) [(0, true), (1, true), (2, true), (3, true), (4, true)] mixed (by kernel_rfl) (hT) ?_; intro w hT
  refine rd hf rfl (yl_move rfl) rfl rfl ?_; intro a hf
  refine rd hf rfl (yl_lenE rfl Try.underlying35 hE.app) rfl rfl ?_; intro a hf
  refine rd hf rfl (yl_move rfl) rfl rfl ?_; intro a hf
  refine rd hf rfl (yl_lenE rfl Try.underlying35 hE1.app) rfl rfl ?_; intro a hf
  refine rd hf rfl (yl_cmp rfl rfl rfl) rfl rfl ?_; intro a hf
  refine plan_nil ?_
  replace hf := hf.sel [10, 0, 1] (l' := [(10, _), (0, _), (1, _)]) rfl
  refine wp_ifd hf rfl (fun hlen0 => ?_) (fun hlen0 => ?_)
  · -- then
    refine wpIn_seq ?_
    -- region 2 (law.go:67)
    refine wp_reg ([]) ([] ++ rs) [(0, true)] mixed (by kernel_rfl) (hT) ?_; intro w hT
    refine rd hf rfl (yl_assign rfl) rfl rfl ?_; intro a hf
    refine plan_nil ?_
    replace hf := hf.sel [4] (l' := [(4, _)]) rfl
    refine wpIn_ret ?_
    exact body_ret hf (L := []) hT rfl rfl ⟨by simp only [retv]; congr 1; symm; simpa using (show ¬ xs = ys from fun h => hlen0 (by rw [h])), rfl⟩
  · -- else
    refine wpIn_skip ?_
    refine wpIn_seq ?_
    refine wpIn_seq ?_
    -- region 3 (law.go:69)
    refine wp_reg ([]) ([] ++ rs) [(0, true)] mixed (by kernel_rfl) (hT) ?_; intro w hT
    refine rd hf rfl (yl_assign rfl) rfl rfl ?_; intro a hf
    refine plan_nil ?_
    refine wpIn_block ?_
    have hlen := hE.len_le
    have hll : xs.length = ys.length := by omega
    refine wp_loopS (σ := Nat) (fun k => [(5, .int .i64 (k : Nat))]) [(0, _), (1, _)] (fun k L => L = [] ∧ k ≤ xs.length ∧ ∀ j (hj : j < k) (h1 : j < xs.length) (h2 : j < ys.length), xs[j] = ys[j]) (fun k => xs.length - k) 0 (L := []) (R := [] ++ rs) (hf.sel [5, 0, 1] rfl) (⟨rfl, Nat.zero_le _, fun j hj => absurd hj (by omega)⟩) hT ?_
    clear hf hT; rintro k a w L hf ⟨rfl, hk, hno⟩ hT
    replace hf : Fr _ [(5, .int .i64 (k : Nat)), (0, _), (1, _)] _ _ := hf
    refine wpIn_seq ?_
    refine wpIn_seq ?_
    -- region 4 (law.go:69)
    refine wp_reg ([]) ([] ++ rs) [(0, true), (1, true), (2, true), (3, true)] mixed (by kernel_rfl) (hT) ?_; intro w hT
    refine rd hf rfl (yl_move rfl) rfl rfl ?_; intro a hf
    refine rd hf rfl (yl_move rfl) rfl rfl ?_; intro a hf
    refine rd hf rfl (yl_lenE rfl Try.underlying35 hE.app) rfl rfl ?_; intro a hf
    refine rd hf rfl (yl_cmp rfl rfl rfl) rfl rfl ?_; intro a hf
    refine plan_nil ?_
    replace hf := hf.sel [14, 5, 0, 1] (l' := [(14, _), (5, _), (0, _), (1, _)]) rfl
    refine wp_ifd hf rfl (fun hlt => ?_) (fun hlt => ?_)
    · -- then
      have hlt' : k < xs.length := by omega
      have hlt2 : k < ys.length := by omega
      have hj : xs[k]? = some xs[k] := List.getElem?_eq_getElem hlt'
      have hj2 : ys[k]? = some ys[k] := List.getElem?_eq_getElem hlt2
      refine wpIn_skip ?_
      refine wpIn_seq ?_
      refine wpIn_block ?_
      refine wpIn_seq ?_
      -- region 6 (law.go:70)
      refine wp_reg ([]) ([] ++ rs) [(0, true), (1, true), (2, true), (3, true), (4, true), (5, true), (6, true), (7, true), (8, true)] mixed (by kernel_rfl) (hT) ?_; intro w hT
      refine rd hf rfl (yl_move rfl) rfl rfl ?_; intro a hf
      refine rd hf rfl (yl_move rfl) rfl rfl ?_; intro a hf
      refine rd hf rfl (yl_indexE rfl rfl Try.underlying35 sz_44 hE.app (by omega) (by omega)) rfl rfl ?_; intro a hf
      refine rd hf rfl (yl_loadA Try.underlying44 rfl sz_44 rfl (hE.app.row hj) rfl) rfl rfl ?_; intro a hf
      refine rd hf rfl (yl_move rfl) rfl rfl ?_; intro a hf
      refine rd hf rfl (yl_move rfl) rfl rfl ?_; intro a hf
      refine rd hf rfl (yl_indexE rfl rfl Try.underlying35 sz_44 hE1.app (by omega) (by omega)) rfl rfl ?_; intro a hf
      refine rd hf rfl (yl_loadA Try.underlying44 rfl sz_44 rfl (hE1.app.row hj2) rfl) rfl rfl ?_; intro a hf
      refine rd hf rfl (yl_aggEq (k := 3) rfl rfl (by kernel_rfl) (by decide) (eqH xs[k] ys[k]) rfl) rfl rfl ?_; intro a hf
      refine plan_nil ?_
      replace hf := hf.sel [25, 5, 0, 1] (l' := [(25, _), (5, _), (0, _), (1, _)]) rfl
      refine wp_if hf rfl (fun hne => ?_) (fun hne => ?_)
      · -- then
        replace hne : ¬ xs[k] = ys[k] := by simpa using hne
        refine wpIn_seq ?_
        -- region 7 (law.go:71)
        refine wp_reg ([]) ([] ++ rs) [(0, true)] mixed (by kernel_rfl) (hT) ?_; intro w hT
        refine rd hf rfl (yl_assign rfl) rfl rfl ?_; intro a hf
        refine plan_nil ?_
        replace hf := hf.sel [4] (l' := [(4, _)]) rfl
        refine wpIn_ret ?_
        exact body_ret hf (L := []) hT rfl rfl ⟨by simp only [retv]; congr 1; symm; simpa using (show ¬ xs = ys from fun h => hne (by subst h; rfl)), rfl⟩
      · -- else
        replace hne : ¬ ¬ xs[k] = ys[k] := by simpa using hne
        refine wpIn_skip ?_
        -- region 5 (law.go:69)
        refine wp_reg ([]) ([] ++ rs) [(0, true), (1, true), (2, true)] mixed (by kernel_rfl) (hT) ?_; intro w hT
        refine rd hf rfl (yl_move rfl) rfl rfl ?_; intro a hf
        refine rd hf rfl (yl_add rfl rfl (by unfold inI64; omega)) rfl rfl ?_; intro a hf
        refine rw_ hf rfl (yl_assign rfl) rfl (l' := [(5, _), (16, _), (15, _), (25, _), (0, _), (1, _)]) rfl ?_; intro a hf
        refine plan_nil ?_
        replace hf := hf.sel [5, 0, 1] (l' := [(5, _), (0, _), (1, _)]) rfl
        exact ⟨k + 1, _, hf.sel [5, 0, 1] rfl, ⟨rfl, by omega, fun j hj h1 h2 => by by_cases hjk : j = k; subst hjk; exact Classical.byContradiction fun h => hne h; exact hno j (by omega) h1 h2⟩, hT, by first | omega | (dsimp only; omega)⟩
    · -- else
      obtain rfl : k = xs.length := by omega
      refine wpIn_exit ?_
      refine then_exit ?_
      refine then_exit ?_
      refine inBlock_hit ?_
      refine wpIn_seq ?_
      -- region 8 (law.go:74)
      refine wp_reg ([]) ([] ++ rs) [(0, true)] mixed (by kernel_rfl) (hT) ?_; intro w hT
      refine rd hf rfl (yl_assign rfl) rfl rfl ?_; intro a hf
      refine plan_nil ?_
      replace hf := hf.sel [4] (l' := [(4, _)]) rfl
      refine wpIn_ret ?_
      exact body_ret hf (L := []) hT rfl rfl ⟨by simp only [retv]; congr 1; symm; simpa using (show xs = ys from List.ext_getElem (by omega) fun j h1 h2 => hno j h1 h1 h2), rfl⟩
structure Pc where
  id : Int
  cls : Int
  made : Int
  size : Int
  packed : Int
def Pc.cells (p : Pc) : List Value := [.int .u8 p.id, .int .u8 p.cls, .int .u8 p.made, .int .u8 p.size, .int .u8 p.packed]
def encPc : Enc Pc := ⟨Pc.cells, 5, fun _ => rfl, fun a u h => by simp [Pc.cells] at h; rcases h with rfl | rfl | rfl | rfl | rfl <;> rfl, by decide⟩
def Pc.Ok (p : Pc) : Prop := (0 ≤ p.id ∧ p.id ≤ 255) ∧ (0 ≤ p.cls ∧ p.cls ≤ 255) ∧ (0 ≤ p.made ∧ p.made ≤ 255) ∧ (0 ≤ p.size ∧ p.size ≤ 255) ∧ (0 ≤ p.packed ∧ p.packed ≤ 255)
def Pc.toR (p : Pc) : Rec := ⟨p.id % 64, p.cls % 10, p.made % 16, 1 + p.size, 1 + p.packed % (1 + p.size)⟩
theorem Pc.toR_ok {p : Pc} (h : p.Ok) : p.toR.Ok := by
  obtain ⟨h1, h2, h3, h4, h5⟩ := h
  have h6 := Int.emod_nonneg p.packed (show (1 + p.size) ≠ 0 by omega)
  have h7 := Int.emod_lt_of_pos p.packed (show 0 < 1 + p.size by omega)
  unfold Rec.Ok Pc.toR
  simp only
  omega
theorem record_spec {e : Env} {w : World} {rs : List Part} (p : Pc) (hp : p.Ok) (hT : Tot e w rs) : Spec Try.prog 13 #[.agg #[.int .u8 p.id, .int .u8 p.cls, .int .u8 p.made, .int .u8 p.size, .int .u8 p.packed]] e w rs (fun v L => v = encR p.toR ∧ L = []) := by
  refine spec_body Try.func13 rfl Try.ntmps13 rfl rfl ?_
  intro a hf
  obtain ⟨h1, h2, h3, h4, h5⟩ := hp
  have h6 := Int.emod_nonneg p.packed (show (1 + p.size) ≠ 0 by omega)
  have h7 := Int.emod_lt_of_pos p.packed (show 0 < 1 + p.size by omega)
  refine wpIn_seq ?_
  -- region 0 (outright.go:20)
  refine wp_reg ([]) ([] ++ rs) [(0, false), (1, false)] mixed (by kernel_rfl) (hT) ?_; intro w hT
  refine ef hf hT rfl rfl (ef_box rfl) rfl (l' := [(0, _)]) rfl ?_; rintro a w v L ⟨b1, rfl, rfl⟩ hf hT
  refine ef hf hT rfl rfl (ef_alloc zr_31) rfl (l' := [(1, _), (0, _)]) rfl ?_; rintro a w v L ⟨b2, rfl, rfl⟩ hf hT
  refine plan_nil ?_
  refine wpIn_seq ?_
  -- region 1 (outright.go:21)
  refine wp_reg ([]) ([_, _] ++ rs) [(0, true), (1, true), (2, true), (3, true), (4, true)] mixed (by kernel_rfl) (hT) ?_; intro w hT
  refine rd hf rfl (yl_faddr Try.underlying33 rfl rfl sz_5 (k := 3) rfl) rfl rfl ?_; intro a hf
  refine rd hf rfl (yl_load Try.underlying5 rfl rfl ⟨_, .tail _ (.head _), _, _, _, pt_self _ _, rfl⟩) rfl rfl ?_; intro a hf
  refine rd hf rfl (yl_conv64 rfl Try.underlying5 Try.underlying2 (by unfold inI64; omega)) rfl rfl ?_; intro a hf
  refine rd hf rfl (yl_add rfl rfl (by unfold inI64; omega)) rfl rfl ?_; intro a hf
  refine rd hf rfl (yl_assign rfl) rfl rfl ?_; intro a hf
  refine plan_nil ?_
  replace hf := hf.sel [3, 2, 1] (l' := [(3, _), (2, _), (1, _)]) rfl
  refine wpIn_seq ?_
  -- region 2 (outright.go:22)
  refine wp_reg ([]) ([_, _] ++ rs) [(0, true), (1, true), (2, true), (3, true), (4, true), (5, true), (6, true), (7, true), (8, true), (9, true), (10, true), (11, true), (12, true), (13, true), (14, true), (15, true), (16, true), (17, true), (18, true), (19, true), (20, false)] mixed (by kernel_rfl) (hT) ?_; intro w hT
  refine rd hf rfl (yl_faddr Try.underlying33 rfl rfl sz_5 (k := 0) rfl) rfl rfl ?_; intro a hf
  refine rd hf rfl (yl_load Try.underlying5 rfl rfl ⟨_, .tail _ (.head _), _, _, _, pt_self _ _, rfl⟩) rfl rfl ?_; intro a hf
  refine rd hf rfl (yl_conv64 rfl Try.underlying5 Try.underlying2 (by unfold inI64; omega)) rfl rfl ?_; intro a hf
  refine rd hf rfl (yl_rem rfl rfl (by omega) (by omega)) rfl rfl ?_; intro a hf
  refine rd hf rfl (yl_faddr Try.underlying33 rfl rfl sz_5 (k := 1) rfl) rfl rfl ?_; intro a hf
  refine rd hf rfl (yl_load Try.underlying5 rfl rfl ⟨_, .tail _ (.head _), _, _, _, pt_self _ _, rfl⟩) rfl rfl ?_; intro a hf
  refine rd hf rfl (yl_conv64 rfl Try.underlying5 Try.underlying3 (by unfold inI64; omega)) rfl rfl ?_; intro a hf
  refine rd hf rfl (yl_rem rfl rfl (by omega) (by omega)) rfl rfl ?_; intro a hf
  refine rd hf rfl (yl_faddr Try.underlying33 rfl rfl sz_5 (k := 2) rfl) rfl rfl ?_; intro a hf
  refine rd hf rfl (yl_load Try.underlying5 rfl rfl ⟨_, .tail _ (.head _), _, _, _, pt_self _ _, rfl⟩) rfl rfl ?_; intro a hf
  refine rd hf rfl (yl_conv64 rfl Try.underlying5 Try.underlying2 (by unfold inI64; omega)) rfl rfl ?_; intro a hf
  refine rd hf rfl (yl_rem rfl rfl (by omega) (by omega)) rfl rfl ?_; intro a hf
  refine rd hf rfl (yl_move rfl) rfl rfl ?_; intro a hf
  refine rd hf rfl (yl_faddr Try.underlying33 rfl rfl sz_5 (k := 4) rfl) rfl rfl ?_; intro a hf
  refine rd hf rfl (yl_load Try.underlying5 rfl rfl ⟨_, .tail _ (.head _), _, _, _, pt_self _ _, rfl⟩) rfl rfl ?_; intro a hf
  refine rd hf rfl (yl_conv64 rfl Try.underlying5 Try.underlying2 (by unfold inI64; omega)) rfl rfl ?_; intro a hf
  refine rd hf rfl (yl_move rfl) rfl rfl ?_; intro a hf
  refine rd hf rfl (yl_rem rfl rfl (by omega) (by omega)) rfl rfl ?_; intro a hf
  refine rd hf rfl (yl_add rfl rfl (by unfold inI64; omega)) rfl rfl ?_; intro a hf
  refine rd hf rfl (yl_build rfl Try.underlying31 zr_31 (places := [(0, 1), (1, 1), (2, 1), (3, 1), (4, 1)]) (by kernel_rfl) (by kernel_rfl) (out := p.toR.cells) rfl) rfl rfl ?_; intro a hf
  replace hT : Tot _ _ ([_] ++ ([_] ++ rs)) := hT.bring 0
  refine efS_last hf hT rfl rfl (by kernel_rfl) (ef_storeW rfl rfl sz_31 rfl rfl rfl) ?_; rintro w L rfl hT
  replace hf := hf.sel [2] (l' := [(2, _)]) rfl
  refine wpIn_ret ?_
  refine body_retG (L := []) [_, _] [] hf (hT) rfl (vs := [encR p.toR]) ⟨⟨_, _, rfl, fun w hw => ?_⟩, trivial⟩ ⟨rfl, rfl⟩
  exact run_loadA Try.underlying31 rfl sz_31 (vs := p.toR.cells) (fun j hj => by
    rw [add_at]
    obtain ⟨u, hu⟩ : ∃ u, p.toR.cells[j]? = some u := ⟨_, List.getElem?_eq_getElem (by simpa [Rec.cells] using hj)⟩
    rw [hu]
    refine CellIn.at_ ?_ hw
    refine ⟨_, .head _, _, _, _, pt_self _ _, ?_⟩
    show nth p.toR.cells (0 + j) = some u
    rw [nth_eq, Nat.zero_add]; exact hu) rfl
end Go.Proofs.Ytjhbgciocffihaa
