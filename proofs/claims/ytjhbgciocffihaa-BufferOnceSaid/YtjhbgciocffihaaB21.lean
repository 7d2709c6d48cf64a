-- written by gen.py out of walks texts of my own
import Derived.Test.YtjhbgciocffihaaB20
set_option linter.unusedVariables false
set_option linter.unusedSimpArgs false
set_option maxHeartbeats 4000000
namespace Go.Proofs.Ytjhbgciocffihaa
/-- the last that can be compressed, among the first k -/
def lastSq (xs : List Hld) : Nat → Int
  | 0 => -1
  | k + 1 => if (xs.getD k (new ⟨0, 0, 0, 0, 0⟩)).sq = true then (k : Nat) else lastSq xs k
theorem lastSq_spec (xs : List Hld) : ∀ k, k ≤ xs.length → (lastSq xs k = -1 ∧ ∀ j (h : j < k) (hl : j < xs.length), xs[j].sq = false) ∨ (∃ i, ∃ hi : i < xs.length, i < k ∧ lastSq xs k = (i : Nat) ∧ xs[i].sq = true ∧ ∀ j (h : j < k) (hl : j < xs.length), i < j → xs[j].sq = false)
  | 0, _ => .inl ⟨rfl, fun j h => absurd h (by omega)⟩
  | k + 1, hk => by
    have hkl : k < xs.length := by omega
    have e : xs.getD k (new ⟨0, 0, 0, 0, 0⟩) = xs[k] := by rw [List.getD_eq_getElem?_getD, List.getElem?_eq_getElem hkl]; rfl
    unfold lastSq
    rw [e]
    by_cases hq : xs[k].sq = true
    · rw [if_pos hq]
      exact .inr ⟨k, hkl, by omega, rfl, hq, fun j h hl hij => by omega⟩
    · rw [if_neg hq]
      have hq' : xs[k].sq = false := by simpa using hq
      rcases lastSq_spec xs k (by omega) with ⟨h1, h2⟩ | ⟨i, hi, h1, h2, h3, h4⟩
      · refine .inl ⟨h1, fun j h hl => ?_⟩
        by_cases hjk : j = k
        · subst hjk; exact hq'
        · exact h2 j (by omega) hl
      · refine .inr ⟨i, hi, by omega, h2, h3, fun j h hl hij => ?_⟩
        by_cases hjk : j = k
        · subst hjk; exact hq'
        · exact h4 j (by omega) hl hij
theorem loose_spec {e : Env} {w : World} {rs : List Part} (b : Nat) (c t : Int) (xs : List Hld) (hB : RBIn rs b c t xs) (hT : Tot e w rs) : Spec Try.prog 59 #[.pointer (some ⟨b, 0, none⟩)] e w rs (fun v L => v = .int .i64 (lastSq xs xs.length) ∧ L = []) := by
  refine spec_body Try.func59 rfl Try.ntmps59 rfl rfl ?_
  intro a hf
  obtain ⟨lv, hrow, hE⟩ := hB
  have hlen := hE.len_le
  refine wpIn_seq ?_
  -- region 0 (ref.go:69)
  refine wp_reg ([]) ([] ++ rs) [(0, true)] mixed (by kernel_rfl) (hT) ?_; intro w hT
  refine rd hf rfl (yl_assign rfl) rfl rfl ?_; intro a hf
  refine plan_nil ?_
  refine wpIn_seq ?_
  -- region 1 (ref.go:70)
  refine wp_reg ([]) ([] ++ rs) [(0, true)] mixed (by kernel_rfl) (hT) ?_; intro w hT
  refine rd hf rfl (yl_assign rfl) rfl rfl ?_; intro a hf
  refine plan_nil ?_
  refine wpIn_seq ?_
  refine wpIn_seq ?_
  -- region 2 (ref.go:71)
  refine wp_reg ([]) ([] ++ rs) [(0, true)] mixed (by kernel_rfl) (hT) ?_; intro w hT
  refine rd hf rfl (yl_assign rfl) rfl rfl ?_; intro a hf
  refine plan_nil ?_
  refine wpIn_block ?_
  refine wp_loopS (σ := Nat) (fun k => [(3, .int .i64 (lastSq xs k)), (4, .int .i64 (k : Nat))]) [(0, _)] (fun k L => L = [] ∧ k ≤ xs.length) (fun k => xs.length - k) 0 (L := []) (R := [] ++ rs) (hf.sel [3, 4, 0] rfl) (⟨rfl, Nat.zero_le _⟩) hT ?_
  clear hf hT; rintro k a w L hf ⟨rfl, hk⟩ hT
  replace hf : Fr _ [(3, .int .i64 (lastSq xs k)), (4, .int .i64 (k : Nat)), (0, _)] _ _ := hf
  refine wpIn_seq ?_
  refine wpIn_seq ?_
  -- region 3 (ref.go:71)
  refine wp_reg ([]) ([] ++ rs) [(0, true), (1, true), (2, true), (3, true), (4, true), (5, true), (6, true)] mixed (by kernel_rfl) (hT) ?_; intro w hT
  refine rd hf rfl (yl_move rfl) rfl rfl ?_; intro a hf
  refine rd hf rfl (yl_move rfl) rfl rfl ?_; intro a hf
  refine rd hf rfl (yl_nil rfl) rfl rfl ?_; intro a hf
  refine rd hf rfl (yl_faddr Try.underlying68 rfl rfl sz_35 (k := 2) rfl) rfl rfl ?_; intro a hf
  refine rd hf rfl (yl_load Try.underlying35 rfl rfl (hrow 2 _ rfl).app) rfl rfl ?_; intro a hf
  refine rd hf rfl (yl_lenE rfl Try.underlying35 hE.app) rfl rfl ?_; intro a hf
  refine rd hf rfl (yl_cmp rfl rfl rfl) rfl rfl ?_; intro a hf
  refine plan_nil ?_
  replace hf := hf.sel [11, 3, 4, 0] (l' := [(11, _), (3, _), (4, _), (0, _)]) rfl
  refine wp_ifd hf rfl (fun hlt => ?_) (fun hlt => ?_)
  · -- then
    have hltk : k < xs.length := by omega
    have hj : xs[k]? = some xs[k] := List.getElem?_eq_getElem hltk
    have hgd : xs.getD k (new ⟨0, 0, 0, 0, 0⟩) = xs[k] := by rw [List.getD_eq_getElem?_getD, List.getElem?_eq_getElem hltk]; rfl
    refine wpIn_skip ?_
    refine wpIn_seq ?_
    refine wpIn_block ?_
    refine wpIn_seq ?_
    -- region 5: its branches meet again
    have hf0 := hf.sel [3, 4, 0] (l' := [(3, _), (4, _), (0, _)]) rfl
    refine wp_join hf0 hT 43 (.bool xs[k].sq) ?_ ?_
    · clear hf0
      -- region 5 (ref.go:72)
      refine wp_reg ([]) ([] ++ rs) [(0, true), (1, true), (2, true), (3, true), (4, true), (5, true), (6, true), (7, true), (8, true), (9, true), (10, true), (11, true), (12, true), (13, true), (14, true), (15, true), (16, true), (17, true), (18, true), (19, true), (20, true), (21, true), (22, true), (23, true), (24, true), (25, true), (26, true), (27, true), (28, true), (29, true)] mixed (by kernel_rfl) (hT) ?_; intro w hT
      refine rd hf rfl (yl_move rfl) rfl rfl ?_; intro a hf
      refine rd hf rfl (yl_nil rfl) rfl rfl ?_; intro a hf
      refine rd hf rfl (yl_faddr Try.underlying68 rfl rfl sz_35 (k := 2) rfl) rfl rfl ?_; intro a hf
      refine rd hf rfl (yl_load Try.underlying35 rfl rfl (hrow 2 _ rfl).app) rfl rfl ?_; intro a hf
      refine rd hf rfl (yl_move rfl) rfl rfl ?_; intro a hf
      refine rd hf rfl (yl_indexE rfl rfl Try.underlying35 sz_44 hE.app (by omega) (by omega)) rfl rfl ?_; intro a hf
      refine rd hf rfl (yl_faddr Try.underlying44 rfl rfl sz_4 rfl) rfl rfl ?_; intro a hf
      refine rd hf rfl (yl_load Try.underlying4 rfl rfl (hE.app.cell hj (f := 5) rfl)) rfl rfl ?_; intro a hf
      refine rd hf rfl (yl_not rfl) rfl rfl ?_; intro a hf
      refine rd hf rfl (yl_move rfl) rfl rfl ?_; intro a hf
      by_cases hg9 : (!xs[k].small) = true
      · have hgT1 : (!xs[k].small) = true := by simpa using hg9
        refine rdT hf rfl rfl rfl rfl (by first | exact hgT1 | simp [hgT1]) (yl_move rfl) rfl (l' := [(24, _), (23, _), (22, _), (21, _), (20, _), (19, _), (18, _), (17, _), (16, _), (15, _), (14, _), (11, _), (3, _), (4, _), (0, _)]) rfl ?_; intro a hf
        refine rdT hf rfl rfl rfl rfl (by first | exact hgT1 | simp [hgT1]) (yl_nil rfl) rfl (l' := [(25, _), (24, _), (23, _), (22, _), (21, _), (20, _), (19, _), (18, _), (17, _), (16, _), (15, _), (14, _), (11, _), (3, _), (4, _), (0, _)]) rfl ?_; intro a hf
        refine rdT hf rfl rfl rfl rfl (by first | exact hgT1 | simp [hgT1]) (yl_faddr Try.underlying68 rfl rfl sz_35 (k := 2) rfl) rfl (l' := [(26, _), (25, _), (24, _), (23, _), (22, _), (21, _), (20, _), (19, _), (18, _), (17, _), (16, _), (15, _), (14, _), (11, _), (3, _), (4, _), (0, _)]) rfl ?_; intro a hf
        refine rdT hf rfl rfl rfl rfl (by first | exact hgT1 | simp [hgT1]) (yl_load Try.underlying35 rfl rfl (hrow 2 _ rfl).app) rfl (l' := [(27, _), (26, _), (25, _), (24, _), (23, _), (22, _), (21, _), (20, _), (19, _), (18, _), (17, _), (16, _), (15, _), (14, _), (11, _), (3, _), (4, _), (0, _)]) rfl ?_; intro a hf
        refine rdT hf rfl rfl rfl rfl (by first | exact hgT1 | simp [hgT1]) (yl_move rfl) rfl (l' := [(28, _), (27, _), (26, _), (25, _), (24, _), (23, _), (22, _), (21, _), (20, _), (19, _), (18, _), (17, _), (16, _), (15, _), (14, _), (11, _), (3, _), (4, _), (0, _)]) rfl ?_; intro a hf
        refine rdT hf rfl rfl rfl rfl (by first | exact hgT1 | simp [hgT1]) (yl_indexE rfl rfl Try.underlying35 sz_44 hE.app (by omega) (by omega)) rfl (l' := [(29, _), (28, _), (27, _), (26, _), (25, _), (24, _), (23, _), (22, _), (21, _), (20, _), (19, _), (18, _), (17, _), (16, _), (15, _), (14, _), (11, _), (3, _), (4, _), (0, _)]) rfl ?_; intro a hf
        refine rdT hf rfl rfl rfl rfl (by first | exact hgT1 | simp [hgT1]) (yl_faddr Try.underlying44 rfl rfl sz_31 rfl) rfl (l' := [(30, _), (29, _), (28, _), (27, _), (26, _), (25, _), (24, _), (23, _), (22, _), (21, _), (20, _), (19, _), (18, _), (17, _), (16, _), (15, _), (14, _), (11, _), (3, _), (4, _), (0, _)]) rfl ?_; intro a hf
        refine rdT hf rfl rfl rfl rfl (by first | exact hgT1 | simp [hgT1]) (yl_faddr Try.underlying31 rfl rfl sz_2 rfl) rfl (l' := [(31, _), (30, _), (29, _), (28, _), (27, _), (26, _), (25, _), (24, _), (23, _), (22, _), (21, _), (20, _), (19, _), (18, _), (17, _), (16, _), (15, _), (14, _), (11, _), (3, _), (4, _), (0, _)]) rfl ?_; intro a hf
        refine rdT hf rfl rfl rfl rfl (by first | exact hgT1 | simp [hgT1]) (yl_load Try.underlying2 rfl rfl (hE.app.cell hj (f := 4) rfl)) rfl (l' := [(32, _), (31, _), (30, _), (29, _), (28, _), (27, _), (26, _), (25, _), (24, _), (23, _), (22, _), (21, _), (20, _), (19, _), (18, _), (17, _), (16, _), (15, _), (14, _), (11, _), (3, _), (4, _), (0, _)]) rfl ?_; intro a hf
        refine rdT hf rfl rfl rfl rfl (by first | exact hgT1 | simp [hgT1]) (yl_move rfl) rfl (l' := [(33, _), (32, _), (31, _), (30, _), (29, _), (28, _), (27, _), (26, _), (25, _), (24, _), (23, _), (22, _), (21, _), (20, _), (19, _), (18, _), (17, _), (16, _), (15, _), (14, _), (11, _), (3, _), (4, _), (0, _)]) rfl ?_; intro a hf
        refine rdT hf rfl rfl rfl rfl (by first | exact hgT1 | simp [hgT1]) (yl_nil rfl) rfl (l' := [(34, _), (33, _), (32, _), (31, _), (30, _), (29, _), (28, _), (27, _), (26, _), (25, _), (24, _), (23, _), (22, _), (21, _), (20, _), (19, _), (18, _), (17, _), (16, _), (15, _), (14, _), (11, _), (3, _), (4, _), (0, _)]) rfl ?_; intro a hf
        refine rdT hf rfl rfl rfl rfl (by first | exact hgT1 | simp [hgT1]) (yl_faddr Try.underlying68 rfl rfl sz_35 (k := 2) rfl) rfl (l' := [(35, _), (34, _), (33, _), (32, _), (31, _), (30, _), (29, _), (28, _), (27, _), (26, _), (25, _), (24, _), (23, _), (22, _), (21, _), (20, _), (19, _), (18, _), (17, _), (16, _), (15, _), (14, _), (11, _), (3, _), (4, _), (0, _)]) rfl ?_; intro a hf
        refine rdT hf rfl rfl rfl rfl (by first | exact hgT1 | simp [hgT1]) (yl_load Try.underlying35 rfl rfl (hrow 2 _ rfl).app) rfl (l' := [(36, _), (35, _), (34, _), (33, _), (32, _), (31, _), (30, _), (29, _), (28, _), (27, _), (26, _), (25, _), (24, _), (23, _), (22, _), (21, _), (20, _), (19, _), (18, _), (17, _), (16, _), (15, _), (14, _), (11, _), (3, _), (4, _), (0, _)]) rfl ?_; intro a hf
        refine rdT hf rfl rfl rfl rfl (by first | exact hgT1 | simp [hgT1]) (yl_move rfl) rfl (l' := [(37, _), (36, _), (35, _), (34, _), (33, _), (32, _), (31, _), (30, _), (29, _), (28, _), (27, _), (26, _), (25, _), (24, _), (23, _), (22, _), (21, _), (20, _), (19, _), (18, _), (17, _), (16, _), (15, _), (14, _), (11, _), (3, _), (4, _), (0, _)]) rfl ?_; intro a hf
        refine rdT hf rfl rfl rfl rfl (by first | exact hgT1 | simp [hgT1]) (yl_indexE rfl rfl Try.underlying35 sz_44 hE.app (by omega) (by omega)) rfl (l' := [(38, _), (37, _), (36, _), (35, _), (34, _), (33, _), (32, _), (31, _), (30, _), (29, _), (28, _), (27, _), (26, _), (25, _), (24, _), (23, _), (22, _), (21, _), (20, _), (19, _), (18, _), (17, _), (16, _), (15, _), (14, _), (11, _), (3, _), (4, _), (0, _)]) rfl ?_; intro a hf
        refine rdT hf rfl rfl rfl rfl (by first | exact hgT1 | simp [hgT1]) (yl_faddr Try.underlying44 rfl rfl sz_31 rfl) rfl (l' := [(39, _), (38, _), (37, _), (36, _), (35, _), (34, _), (33, _), (32, _), (31, _), (30, _), (29, _), (28, _), (27, _), (26, _), (25, _), (24, _), (23, _), (22, _), (21, _), (20, _), (19, _), (18, _), (17, _), (16, _), (15, _), (14, _), (11, _), (3, _), (4, _), (0, _)]) rfl ?_; intro a hf
        refine rdT hf rfl rfl rfl rfl (by first | exact hgT1 | simp [hgT1]) (yl_faddr Try.underlying31 rfl rfl sz_2 rfl) rfl (l' := [(40, _), (39, _), (38, _), (37, _), (36, _), (35, _), (34, _), (33, _), (32, _), (31, _), (30, _), (29, _), (28, _), (27, _), (26, _), (25, _), (24, _), (23, _), (22, _), (21, _), (20, _), (19, _), (18, _), (17, _), (16, _), (15, _), (14, _), (11, _), (3, _), (4, _), (0, _)]) rfl ?_; intro a hf
        refine rdT hf rfl rfl rfl rfl (by first | exact hgT1 | simp [hgT1]) (yl_load Try.underlying2 rfl rfl (hE.app.cell hj (f := 3) rfl)) rfl (l' := [(41, _), (40, _), (39, _), (38, _), (37, _), (36, _), (35, _), (34, _), (33, _), (32, _), (31, _), (30, _), (29, _), (28, _), (27, _), (26, _), (25, _), (24, _), (23, _), (22, _), (21, _), (20, _), (19, _), (18, _), (17, _), (16, _), (15, _), (14, _), (11, _), (3, _), (4, _), (0, _)]) rfl ?_; intro a hf
        refine rdT hf rfl rfl rfl rfl (by first | exact hgT1 | simp [hgT1]) (yl_cmp rfl rfl rfl) rfl (l' := [(42, _), (41, _), (40, _), (39, _), (38, _), (37, _), (36, _), (35, _), (34, _), (33, _), (32, _), (31, _), (30, _), (29, _), (28, _), (27, _), (26, _), (25, _), (24, _), (23, _), (22, _), (21, _), (20, _), (19, _), (18, _), (17, _), (16, _), (15, _), (14, _), (11, _), (3, _), (4, _), (0, _)]) rfl ?_; intro a hf
        refine rd hf rfl (yl_pickTT rfl hgT1 rfl) rfl rfl ?_; intro a hf
        refine plan_nil ?_
        exact ⟨(hf.sel [43, 3, 4, 0] (l' := [(43, _), (3, _), (4, _), (0, _)]) rfl).fix (by cases hq : xs[k].small <;> simp_all [Hld.sq]), hT⟩
      · have hgT1 : (!xs[k].small) = false := by simpa using hg9
        refine rdF hf rfl rfl rfl rfl (by first | exact hgT1 | simp [hgT1]) rfl (l' := [(24, _), (23, _), (22, _), (21, _), (20, _), (19, _), (18, _), (17, _), (16, _), (15, _), (14, _), (11, _), (3, _), (4, _), (0, _)]) rfl ?_; intro a hf
        refine rdF hf rfl rfl rfl rfl (by first | exact hgT1 | simp [hgT1]) rfl (l' := [(25, _), (24, _), (23, _), (22, _), (21, _), (20, _), (19, _), (18, _), (17, _), (16, _), (15, _), (14, _), (11, _), (3, _), (4, _), (0, _)]) rfl ?_; intro a hf
        refine rdF hf rfl rfl rfl rfl (by first | exact hgT1 | simp [hgT1]) rfl (l' := [(26, _), (25, _), (24, _), (23, _), (22, _), (21, _), (20, _), (19, _), (18, _), (17, _), (16, _), (15, _), (14, _), (11, _), (3, _), (4, _), (0, _)]) rfl ?_; intro a hf
        refine rdF hf rfl rfl rfl rfl (by first | exact hgT1 | simp [hgT1]) rfl (l' := [(27, _), (26, _), (25, _), (24, _), (23, _), (22, _), (21, _), (20, _), (19, _), (18, _), (17, _), (16, _), (15, _), (14, _), (11, _), (3, _), (4, _), (0, _)]) rfl ?_; intro a hf
        refine rdF hf rfl rfl rfl rfl (by first | exact hgT1 | simp [hgT1]) rfl (l' := [(28, _), (27, _), (26, _), (25, _), (24, _), (23, _), (22, _), (21, _), (20, _), (19, _), (18, _), (17, _), (16, _), (15, _), (14, _), (11, _), (3, _), (4, _), (0, _)]) rfl ?_; intro a hf
        refine rdF hf rfl rfl rfl rfl (by first | exact hgT1 | simp [hgT1]) rfl (l' := [(29, _), (28, _), (27, _), (26, _), (25, _), (24, _), (23, _), (22, _), (21, _), (20, _), (19, _), (18, _), (17, _), (16, _), (15, _), (14, _), (11, _), (3, _), (4, _), (0, _)]) rfl ?_; intro a hf
        refine rdF hf rfl rfl rfl rfl (by first | exact hgT1 | simp [hgT1]) rfl (l' := [(30, _), (29, _), (28, _), (27, _), (26, _), (25, _), (24, _), (23, _), (22, _), (21, _), (20, _), (19, _), (18, _), (17, _), (16, _), (15, _), (14, _), (11, _), (3, _), (4, _), (0, _)]) rfl ?_; intro a hf
        refine rdF hf rfl rfl rfl rfl (by first | exact hgT1 | simp [hgT1]) rfl (l' := [(31, _), (30, _), (29, _), (28, _), (27, _), (26, _), (25, _), (24, _), (23, _), (22, _), (21, _), (20, _), (19, _), (18, _), (17, _), (16, _), (15, _), (14, _), (11, _), (3, _), (4, _), (0, _)]) rfl ?_; intro a hf
        refine rdF hf rfl rfl rfl rfl (by first | exact hgT1 | simp [hgT1]) rfl (l' := [(32, _), (31, _), (30, _), (29, _), (28, _), (27, _), (26, _), (25, _), (24, _), (23, _), (22, _), (21, _), (20, _), (19, _), (18, _), (17, _), (16, _), (15, _), (14, _), (11, _), (3, _), (4, _), (0, _)]) rfl ?_; intro a hf
        refine rdF hf rfl rfl rfl rfl (by first | exact hgT1 | simp [hgT1]) rfl (l' := [(33, _), (32, _), (31, _), (30, _), (29, _), (28, _), (27, _), (26, _), (25, _), (24, _), (23, _), (22, _), (21, _), (20, _), (19, _), (18, _), (17, _), (16, _), (15, _), (14, _), (11, _), (3, _), (4, _), (0, _)]) rfl ?_; intro a hf
        refine rdF hf rfl rfl rfl rfl (by first | exact hgT1 | simp [hgT1]) rfl (l' := [(34, _), (33, _), (32, _), (31, _), (30, _), (29, _), (28, _), (27, _), (26, _), (25, _), (24, _), (23, _), (22, _), (21, _), (20, _), (19, _), (18, _), (17, _), (16, _), (15, _), (14, _), (11, _), (3, _), (4, _), (0, _)]) rfl ?_; intro a hf
        refine rdF hf rfl rfl rfl rfl (by first | exact hgT1 | simp [hgT1]) rfl (l' := [(35, _), (34, _), (33, _), (32, _), (31, _), (30, _), (29, _), (28, _), (27, _), (26, _), (25, _), (24, _), (23, _), (22, _), (21, _), (20, _), (19, _), (18, _), (17, _), (16, _), (15, _), (14, _), (11, _), (3, _), (4, _), (0, _)]) rfl ?_; intro a hf
        refine rdF hf rfl rfl rfl rfl (by first | exact hgT1 | simp [hgT1]) rfl (l' := [(36, _), (35, _), (34, _), (33, _), (32, _), (31, _), (30, _), (29, _), (28, _), (27, _), (26, _), (25, _), (24, _), (23, _), (22, _), (21, _), (20, _), (19, _), (18, _), (17, _), (16, _), (15, _), (14, _), (11, _), (3, _), (4, _), (0, _)]) rfl ?_; intro a hf
        refine rdF hf rfl rfl rfl rfl (by first | exact hgT1 | simp [hgT1]) rfl (l' := [(37, _), (36, _), (35, _), (34, _), (33, _), (32, _), (31, _), (30, _), (29, _), (28, _), (27, _), (26, _), (25, _), (24, _), (23, _), (22, _), (21, _), (20, _), (19, _), (18, _), (17, _), (16, _), (15, _), (14, _), (11, _), (3, _), (4, _), (0, _)]) rfl ?_; intro a hf
        refine rdF hf rfl rfl rfl rfl (by first | exact hgT1 | simp [hgT1]) rfl (l' := [(38, _), (37, _), (36, _), (35, _), (34, _), (33, _), (32, _), (31, _), (30, _), (29, _), (28, _), (27, _), (26, _), (25, _), (24, _), (23, _), (22, _), (21, _), (20, _), (19, _), (18, _), (17, _), (16, _), (15, _), (14, _), (11, _), (3, _), (4, _), (0, _)]) rfl ?_; intro a hf
        refine rdF hf rfl rfl rfl rfl (by first | exact hgT1 | simp [hgT1]) rfl (l' := [(39, _), (38, _), (37, _), (36, _), (35, _), (34, _), (33, _), (32, _), (31, _), (30, _), (29, _), (28, _), (27, _), (26, _), (25, _), (24, _), (23, _), (22, _), (21, _), (20, _), (19, _), (18, _), (17, _), (16, _), (15, _), (14, _), (11, _), (3, _), (4, _), (0, _)]) rfl ?_; intro a hf
        refine rdF hf rfl rfl rfl rfl (by first | exact hgT1 | simp [hgT1]) rfl (l' := [(40, _), (39, _), (38, _), (37, _), (36, _), (35, _), (34, _), (33, _), (32, _), (31, _), (30, _), (29, _), (28, _), (27, _), (26, _), (25, _), (24, _), (23, _), (22, _), (21, _), (20, _), (19, _), (18, _), (17, _), (16, _), (15, _), (14, _), (11, _), (3, _), (4, _), (0, _)]) rfl ?_; intro a hf
        refine rdF hf rfl rfl rfl rfl (by first | exact hgT1 | simp [hgT1]) rfl (l' := [(41, _), (40, _), (39, _), (38, _), (37, _), (36, _), (35, _), (34, _), (33, _), (32, _), (31, _), (30, _), (29, _), (28, _), (27, _), (26, _), (25, _), (24, _), (23, _), (22, _), (21, _), (20, _), (19, _), (18, _), (17, _), (16, _), (15, _), (14, _), (11, _), (3, _), (4, _), (0, _)]) rfl ?_; intro a hf
        refine rdF hf rfl rfl rfl rfl (by first | exact hgT1 | simp [hgT1]) rfl (l' := [(42, _), (41, _), (40, _), (39, _), (38, _), (37, _), (36, _), (35, _), (34, _), (33, _), (32, _), (31, _), (30, _), (29, _), (28, _), (27, _), (26, _), (25, _), (24, _), (23, _), (22, _), (21, _), (20, _), (19, _), (18, _), (17, _), (16, _), (15, _), (14, _), (11, _), (3, _), (4, _), (0, _)]) rfl ?_; intro a hf
        refine rd hf rfl (yl_pickFF rfl hgT1 rfl) rfl rfl ?_; intro a hf
        refine plan_nil ?_
        exact ⟨(hf.sel [43, 3, 4, 0] (l' := [(43, _), (3, _), (4, _), (0, _)]) rfl).fix (by cases hq : xs[k].small <;> simp_all [Hld.sq]), hT⟩
    · clear hf hf0 hT; intro a w hf hT
      refine wp_if hf rfl (fun hsq => ?_) (fun hsq => ?_)
      · -- then
        -- region 6 (ref.go:73)
        refine wp_reg ([]) ([] ++ rs) [(0, true), (1, true)] mixed (by kernel_rfl) (hT) ?_; intro w hT
        refine rd hf rfl (yl_move rfl) rfl rfl ?_; intro a hf
        refine rw_ hf rfl (yl_assign rfl) rfl (l' := [(3, _), (44, _), (43, _), (4, _), (0, _)]) rfl ?_; intro a hf
        refine plan_nil ?_
        -- region 4 (ref.go:71)
        refine wp_reg ([]) ([] ++ rs) [(0, true), (1, true), (2, true)] mixed (by kernel_rfl) (hT) ?_; intro w hT
        refine rd hf rfl (yl_move rfl) rfl rfl ?_; intro a hf
        refine rd hf rfl (yl_add rfl rfl (by unfold inI64; omega)) rfl rfl ?_; intro a hf
        refine rw_ hf rfl (yl_assign rfl) rfl (l' := [(4, _), (13, _), (12, _), (3, _), (44, _), (43, _), (0, _)]) rfl ?_; intro a hf
        refine plan_nil ?_
        replace hf := hf.sel [4, 3, 0] (l' := [(4, _), (3, _), (0, _)]) rfl
        exact ⟨k + 1, _, (by have h := hf.sel [3, 4, 0] (l' := [(3, _), (4, _), (0, _)]) rfl; unfold lastSq; rw [hgd, if_pos hsq]; exact h), ⟨rfl, by omega⟩, hT, by first | omega | (dsimp only; omega)⟩
      · -- else
        refine wpIn_skip ?_
        -- region 4 (ref.go:71)
        refine wp_reg ([]) ([] ++ rs) [(0, true), (1, true), (2, true)] mixed (by kernel_rfl) (hT) ?_; intro w hT
        refine rd hf rfl (yl_move rfl) rfl rfl ?_; intro a hf
        refine rd hf rfl (yl_add rfl rfl (by unfold inI64; omega)) rfl rfl ?_; intro a hf
        refine rw_ hf rfl (yl_assign rfl) rfl (l' := [(4, _), (13, _), (12, _), (43, _), (3, _), (0, _)]) rfl ?_; intro a hf
        refine plan_nil ?_
        replace hf := hf.sel [4, 3, 0] (l' := [(4, _), (3, _), (0, _)]) rfl
        exact ⟨k + 1, _, (by have h := hf.sel [3, 4, 0] (l' := [(3, _), (4, _), (0, _)]) rfl; unfold lastSq; rw [hgd, if_neg (by rw [hsq]; decide)]; exact h), ⟨rfl, by omega⟩, hT, by first | omega | (dsimp only; omega)⟩
  · -- else
    obtain rfl : k = xs.length := by omega
    refine wpIn_exit ?_
    refine then_exit ?_
    refine then_exit ?_
    refine inBlock_hit ?_
    refine wpIn_seq ?_
    -- region 7 (ref.go:76)
    refine wp_reg ([]) ([] ++ rs) [(0, true), (1, true)] mixed (by kernel_rfl) (hT) ?_; intro w hT
    refine rd hf rfl (yl_move rfl) rfl rfl ?_; intro a hf
    refine rd hf rfl (yl_assign rfl) rfl rfl ?_; intro a hf
    refine plan_nil ?_
    replace hf := hf.sel [2] (l' := [(2, _)]) rfl
    refine wpIn_ret ?_
    exact body_ret hf (L := []) hT rfl rfl ⟨rfl, rfl⟩
end Go.Proofs.Ytjhbgciocffihaa
