-- written by gen.py out of walks texts of my own
import Derived.Test.YtjhbgciocffihaaB37
import Derived.Test.YtjhbgciocffihaaB11
set_option linter.unusedVariables false
set_option linter.unusedSimpArgs false
set_option maxHeartbeats 4000000
namespace Go.Proofs.Ytjhbgciocffihaa
private theorem wp_join {P : Program} {N : Nat} {ro : Option Nat} {D : List Deferred} {Q : Exit → Act → World → Prop} {c : Code} {a : Act} {w : World} {e : Env} {l0 : List (Nat × Value)} {L1 : List Part} (hf0 : Fr N l0 D a) (hT0 : Tot e w L1) (d : Nat) (v : Value)
    (h1 : c.wpIn (Fw ro) 0 P (QN fun a w => Fr N ((d, v) :: l0) D a ∧ Tot e w L1) a w) (h2 : ∀ a w, Fr N ((d, v) :: l0) D a → Tot e w L1 → Q .normal a w) : c.wpIn (Fw ro) 0 P Q a w :=
  wpIn_mono h1 (fun ex a' w' hq => by cases ex <;> simp only [QN] at hq; exact h2 _ _ hq.1 hq.2)
private theorem Fr.fix {N : Nat} {D : List Deferred} {a : Act} {d : Nat} {v v' : Value} {l : List (Nat × Value)} (h : Fr N ((d, v') :: l) D a) (hv : v' = v) : Fr N ((d, v) :: l) D a := hv ▸ h
private theorem beqT {b v : Bool} (h : b = v) : (b == v) = true := by simp [h]
theorem rBest_spec {e : Env} {w : World} {rs : List Part} (xs : List Pcl) (v0 : Value) (hE : Els encPl rs v0 xs) (m : Int) (hT : Tot e w rs) : Spec Try.prog 39 #[v0, .int .i64 m] e w rs (fun v L => ∃ q out wo er Y, v = .tuple #[q, .int .i64 wo, .int .i64 er] ∧ Els encI [Y] q out ∧ L = [Y] ∧ BestIs xs m out wo er) := by
  refine spec_body Try.func39 rfl Try.ntmps39 rfl rfl ?_
  intro a hf
  refine wpIn_seq ?_
  -- region 0 (ref.go:212)
  refine wp_reg ([]) ([] ++ rs) [(0, true), (1, true), (2, true)] mixed (by kernel_rfl) (hT) ?_; intro w hT
  refine rd hf rfl (yl_assign rfl) rfl rfl ?_; intro a hf
  refine rd hf rfl (yl_assign rfl) rfl rfl ?_; intro a hf
  refine rd hf rfl (yl_assign rfl) rfl rfl ?_; intro a hf
  refine plan_nil ?_
  replace hf := hf.sel [0, 1] (l' := [(0, _), (1, _)]) rfl
  refine wpIn_seq ?_
  refine wpIn_seq ?_
  -- region 1 (ref.go:213)
  refine wp_reg ([]) ([] ++ rs) [(0, true), (1, true), (2, true)] mixed (by kernel_rfl) (hT) ?_; intro w hT
  refine rd hf rfl (yl_move rfl) rfl rfl ?_; intro a hf
  refine rd hf rfl (yl_lenE rfl Try.underlying81 hE.app) rfl rfl ?_; intro a hf
  refine rd hf rfl (yl_cmp rfl rfl rfl) rfl rfl ?_; intro a hf
  refine plan_nil ?_
  refine wp_ifd hf rfl (fun hmany => ?_) (fun hmany => ?_)
  · -- then
    refine wpIn_seq ?_
    -- region 2 (ref.go:214)
    refine wp_reg ([]) ([] ++ rs) [(0, true), (1, true), (2, true)] mixed (by kernel_rfl) (hT) ?_; intro w hT
    refine rd hf rfl (yl_assign rfl) rfl rfl ?_; intro a hf
    refine rd hf rfl (yl_assign rfl) rfl rfl ?_; intro a hf
    refine rd hf rfl (yl_assign rfl) rfl rfl ?_; intro a hf
    refine plan_nil ?_
    replace hf := hf.sel [6, 5, 4] (l' := [(6, _), (5, _), (4, _)]) rfl
    refine wpIn_ret ?_
    replace hT := hT.emp
    exact body_ret hf (L := [_]) hT rfl rfl ⟨_, [], _, _, _, rfl, els_nil, rfl, .inl ⟨by omega, rfl, rfl, rfl⟩⟩
  · -- else
    refine wpIn_skip ?_
    refine wpIn_seq ?_
    refine wpIn_seq ?_
    -- region 3 (ref.go:216)
    refine wp_reg ([]) ([] ++ rs) [(0, true)] mixed (by kernel_rfl) (hT) ?_; intro w hT
    refine rd hf rfl (yl_assign rfl) rfl rfl ?_; intro a hf
    refine plan_nil ?_
    replace hf := hf.sel [7, 0, 1] (l' := [(7, _), (0, _), (1, _)]) rfl
    refine wpIn_block ?_
    have hlen0 := hE.len_le
    refine wp_loopS (σ := Nat) (fun k => [(7, .int .i64 (k : Nat))]) [(0, _), (1, _)] (fun k L => L = [] ∧ k ≤ xs.length ∧ ∀ j (hj : j < xs.length), j < k → ¬ Bad xs[j]) (fun k => xs.length - k) 0 (L := []) (R := [] ++ rs) (hf.sel [7, 0, 1] rfl) (⟨rfl, Nat.zero_le _, fun j hj h => absurd h (Nat.not_lt_zero _)⟩) hT ?_
    clear hf hT; rintro k a w L hf ⟨rfl, hk, ho⟩ hT
    replace hf : Fr _ [(7, .int .i64 (k : Nat)), (0, _), (1, _)] _ _ := hf
    refine wpIn_seq ?_
    refine wpIn_seq ?_
    -- region 4 (ref.go:216)
    refine wp_reg ([]) ([] ++ rs) [(0, true), (1, true), (2, true), (3, true)] mixed (by kernel_rfl) (hT) ?_; intro w hT
    refine rd hf rfl (yl_move rfl) rfl rfl ?_; intro a hf
    refine rd hf rfl (yl_move rfl) rfl rfl ?_; intro a hf
    refine rd hf rfl (yl_lenE rfl Try.underlying81 hE.app) rfl rfl ?_; intro a hf
    refine rd hf rfl (yl_cmp rfl rfl rfl) rfl rfl ?_; intro a hf
    refine plan_nil ?_
    replace hf := hf.sel [15, 7, 0, 1] (l' := [(15, _), (7, _), (0, _), (1, _)]) rfl
    refine wp_ifd hf rfl (fun hlt => ?_) (fun hlt => ?_)
    · -- then
      have hltk : k < xs.length := by omega
      have hj : xs[k]? = some xs[k] := List.getElem?_eq_getElem hltk
      refine wpIn_skip ?_
      refine wpIn_seq ?_
      refine wpIn_block ?_
      refine wpIn_seq ?_
      -- region 6: its branches meet again
      have hf0 := hf.sel [7, 0, 1] (l' := [(7, _), (0, _), (1, _)]) rfl
      refine wp_join hf0 hT 47 (.bool (decide (Bad xs[k]))) ?_ ?_
      · clear hf0
        -- region 6 (ref.go:217)
        refine wp_reg ([]) ([] ++ rs) [(0, true), (1, true), (2, true), (3, true), (4, true), (5, true), (6, true), (7, true), (8, true), (9, true), (10, true), (11, true), (12, true), (13, true), (14, true), (15, true), (16, true), (17, true), (18, true), (19, true), (20, true), (21, true), (22, true), (23, true), (24, true), (25, true), (26, true), (27, true), (28, true), (29, true)] mixed (by kernel_rfl) (hT) ?_; intro w hT
        refine rd hf rfl (yl_move rfl) rfl rfl ?_; intro a hf
        refine rd hf rfl (yl_move rfl) rfl rfl ?_; intro a hf
        refine rd hf rfl (yl_indexE rfl rfl Try.underlying81 sz_90 hE.app (by omega) (by omega)) rfl rfl ?_; intro a hf
        refine rd hf rfl (yl_faddr Try.underlying90 rfl rfl sz_2 rfl) rfl rfl ?_; intro a hf
        refine rd hf rfl (yl_load Try.underlying2 rfl rfl (hE.app.cell hj (f := 0) rfl)) rfl rfl ?_; intro a hf
        refine rd hf rfl (yl_cmp rfl rfl rfl) rfl rfl ?_; intro a hf
        refine rd hf rfl (yl_move rfl) rfl rfl ?_; intro a hf
        by_cases hg6 : xs[k].sz < 1
        · have hgT1 : decide (xs[k].sz < 1) = true := by simpa using hg6
          refine rdF hf rfl rfl rfl rfl (by first | exact hgT1 | simp [hgT1]) rfl (l' := [(25, _), (24, _), (23, _), (22, _), (21, _), (20, _), (19, _), (18, _), (15, _), (7, _), (0, _), (1, _)]) rfl ?_; intro a hf
          refine rdF hf rfl rfl rfl rfl (by first | exact hgT1 | simp [hgT1]) rfl (l' := [(26, _), (25, _), (24, _), (23, _), (22, _), (21, _), (20, _), (19, _), (18, _), (15, _), (7, _), (0, _), (1, _)]) rfl ?_; intro a hf
          refine rdF hf rfl rfl rfl rfl (by first | exact hgT1 | simp [hgT1]) rfl (l' := [(27, _), (26, _), (25, _), (24, _), (23, _), (22, _), (21, _), (20, _), (19, _), (18, _), (15, _), (7, _), (0, _), (1, _)]) rfl ?_; intro a hf
          refine rdF hf rfl rfl rfl rfl (by first | exact hgT1 | simp [hgT1]) rfl (l' := [(28, _), (27, _), (26, _), (25, _), (24, _), (23, _), (22, _), (21, _), (20, _), (19, _), (18, _), (15, _), (7, _), (0, _), (1, _)]) rfl ?_; intro a hf
          refine rdF hf rfl rfl rfl rfl (by first | exact hgT1 | simp [hgT1]) rfl (l' := [(29, _), (28, _), (27, _), (26, _), (25, _), (24, _), (23, _), (22, _), (21, _), (20, _), (19, _), (18, _), (15, _), (7, _), (0, _), (1, _)]) rfl ?_; intro a hf
          refine rdF hf rfl rfl rfl rfl (by first | exact hgT1 | simp [hgT1]) rfl (l' := [(30, _), (29, _), (28, _), (27, _), (26, _), (25, _), (24, _), (23, _), (22, _), (21, _), (20, _), (19, _), (18, _), (15, _), (7, _), (0, _), (1, _)]) rfl ?_; intro a hf
          refine rd hf rfl (yl_pickTT rfl hgT1 rfl) rfl rfl ?_; intro a hf
          refine rd hf rfl (yl_move rfl) rfl rfl ?_; intro a hf
          refine rdF hf rfl rfl rfl rfl (rfl) rfl (l' := [(33, _), (32, _), (31, _), (30, _), (29, _), (28, _), (27, _), (26, _), (25, _), (24, _), (23, _), (22, _), (21, _), (20, _), (19, _), (18, _), (15, _), (7, _), (0, _), (1, _)]) rfl ?_; intro a hf
          refine rdF hf rfl rfl rfl rfl (rfl) rfl (l' := [(34, _), (33, _), (32, _), (31, _), (30, _), (29, _), (28, _), (27, _), (26, _), (25, _), (24, _), (23, _), (22, _), (21, _), (20, _), (19, _), (18, _), (15, _), (7, _), (0, _), (1, _)]) rfl ?_; intro a hf
          refine rdF hf rfl rfl rfl rfl (rfl) rfl (l' := [(35, _), (34, _), (33, _), (32, _), (31, _), (30, _), (29, _), (28, _), (27, _), (26, _), (25, _), (24, _), (23, _), (22, _), (21, _), (20, _), (19, _), (18, _), (15, _), (7, _), (0, _), (1, _)]) rfl ?_; intro a hf
          refine rdF hf rfl rfl rfl rfl (rfl) rfl (l' := [(36, _), (35, _), (34, _), (33, _), (32, _), (31, _), (30, _), (29, _), (28, _), (27, _), (26, _), (25, _), (24, _), (23, _), (22, _), (21, _), (20, _), (19, _), (18, _), (15, _), (7, _), (0, _), (1, _)]) rfl ?_; intro a hf
          refine rdF hf rfl rfl rfl rfl (rfl) rfl (l' := [(37, _), (36, _), (35, _), (34, _), (33, _), (32, _), (31, _), (30, _), (29, _), (28, _), (27, _), (26, _), (25, _), (24, _), (23, _), (22, _), (21, _), (20, _), (19, _), (18, _), (15, _), (7, _), (0, _), (1, _)]) rfl ?_; intro a hf
          refine rdF hf rfl rfl rfl rfl (rfl) rfl (l' := [(38, _), (37, _), (36, _), (35, _), (34, _), (33, _), (32, _), (31, _), (30, _), (29, _), (28, _), (27, _), (26, _), (25, _), (24, _), (23, _), (22, _), (21, _), (20, _), (19, _), (18, _), (15, _), (7, _), (0, _), (1, _)]) rfl ?_; intro a hf
          refine rd hf rfl (yl_pickTT rfl rfl rfl) rfl rfl ?_; intro a hf
          refine rd hf rfl (yl_move rfl) rfl rfl ?_; intro a hf
          refine rdF hf rfl rfl rfl rfl (rfl) rfl (l' := [(41, _), (40, _), (39, _), (38, _), (37, _), (36, _), (35, _), (34, _), (33, _), (32, _), (31, _), (30, _), (29, _), (28, _), (27, _), (26, _), (25, _), (24, _), (23, _), (22, _), (21, _), (20, _), (19, _), (18, _), (15, _), (7, _), (0, _), (1, _)]) rfl ?_; intro a hf
          refine rdF hf rfl rfl rfl rfl (rfl) rfl (l' := [(42, _), (41, _), (40, _), (39, _), (38, _), (37, _), (36, _), (35, _), (34, _), (33, _), (32, _), (31, _), (30, _), (29, _), (28, _), (27, _), (26, _), (25, _), (24, _), (23, _), (22, _), (21, _), (20, _), (19, _), (18, _), (15, _), (7, _), (0, _), (1, _)]) rfl ?_; intro a hf
          refine rdF hf rfl rfl rfl rfl (rfl) rfl (l' := [(43, _), (42, _), (41, _), (40, _), (39, _), (38, _), (37, _), (36, _), (35, _), (34, _), (33, _), (32, _), (31, _), (30, _), (29, _), (28, _), (27, _), (26, _), (25, _), (24, _), (23, _), (22, _), (21, _), (20, _), (19, _), (18, _), (15, _), (7, _), (0, _), (1, _)]) rfl ?_; intro a hf
          refine rdF hf rfl rfl rfl rfl (rfl) rfl (l' := [(44, _), (43, _), (42, _), (41, _), (40, _), (39, _), (38, _), (37, _), (36, _), (35, _), (34, _), (33, _), (32, _), (31, _), (30, _), (29, _), (28, _), (27, _), (26, _), (25, _), (24, _), (23, _), (22, _), (21, _), (20, _), (19, _), (18, _), (15, _), (7, _), (0, _), (1, _)]) rfl ?_; intro a hf
          refine rdF hf rfl rfl rfl rfl (rfl) rfl (l' := [(45, _), (44, _), (43, _), (42, _), (41, _), (40, _), (39, _), (38, _), (37, _), (36, _), (35, _), (34, _), (33, _), (32, _), (31, _), (30, _), (29, _), (28, _), (27, _), (26, _), (25, _), (24, _), (23, _), (22, _), (21, _), (20, _), (19, _), (18, _), (15, _), (7, _), (0, _), (1, _)]) rfl ?_; intro a hf
          refine rdF hf rfl rfl rfl rfl (rfl) rfl (l' := [(46, _), (45, _), (44, _), (43, _), (42, _), (41, _), (40, _), (39, _), (38, _), (37, _), (36, _), (35, _), (34, _), (33, _), (32, _), (31, _), (30, _), (29, _), (28, _), (27, _), (26, _), (25, _), (24, _), (23, _), (22, _), (21, _), (20, _), (19, _), (18, _), (15, _), (7, _), (0, _), (1, _)]) rfl ?_; intro a hf
          refine rd hf rfl (yl_pickTT rfl rfl rfl) rfl rfl ?_; intro a hf
          refine plan_nil ?_
          exact ⟨(hf.sel [47, 7, 0, 1] (l' := [(47, _), (7, _), (0, _), (1, _)]) rfl).fix (congrArg Value.bool (by first | (symm; apply decide_eq_true; unfold Bad; omega) | (symm; apply decide_eq_false; unfold Bad; omega) | (apply decide_eq_decide.2; unfold Bad; omega))), hT⟩
        · have hgT1 : decide (xs[k].sz < 1) = false := by simpa using hg6
          refine rdT hf rfl rfl rfl rfl (by first | exact hgT1 | simp [hgT1]) (yl_move rfl) rfl (l' := [(25, _), (24, _), (23, _), (22, _), (21, _), (20, _), (19, _), (18, _), (15, _), (7, _), (0, _), (1, _)]) rfl ?_; intro a hf
          refine rdT hf rfl rfl rfl rfl (by first | exact hgT1 | simp [hgT1]) (yl_move rfl) rfl (l' := [(26, _), (25, _), (24, _), (23, _), (22, _), (21, _), (20, _), (19, _), (18, _), (15, _), (7, _), (0, _), (1, _)]) rfl ?_; intro a hf
          refine rdT hf rfl rfl rfl rfl (by first | exact hgT1 | simp [hgT1]) (yl_indexE rfl rfl Try.underlying81 sz_90 hE.app (by omega) (by omega)) rfl (l' := [(27, _), (26, _), (25, _), (24, _), (23, _), (22, _), (21, _), (20, _), (19, _), (18, _), (15, _), (7, _), (0, _), (1, _)]) rfl ?_; intro a hf
          refine rdT hf rfl rfl rfl rfl (by first | exact hgT1 | simp [hgT1]) (yl_faddr Try.underlying90 rfl rfl sz_2 rfl) rfl (l' := [(28, _), (27, _), (26, _), (25, _), (24, _), (23, _), (22, _), (21, _), (20, _), (19, _), (18, _), (15, _), (7, _), (0, _), (1, _)]) rfl ?_; intro a hf
          refine rdT hf rfl rfl rfl rfl (by first | exact hgT1 | simp [hgT1]) (yl_load Try.underlying2 rfl rfl (hE.app.cell hj (f := 0) rfl)) rfl (l' := [(29, _), (28, _), (27, _), (26, _), (25, _), (24, _), (23, _), (22, _), (21, _), (20, _), (19, _), (18, _), (15, _), (7, _), (0, _), (1, _)]) rfl ?_; intro a hf
          refine rdT hf rfl rfl rfl rfl (by first | exact hgT1 | simp [hgT1]) (yl_cmp rfl rfl rfl) rfl (l' := [(30, _), (29, _), (28, _), (27, _), (26, _), (25, _), (24, _), (23, _), (22, _), (21, _), (20, _), (19, _), (18, _), (15, _), (7, _), (0, _), (1, _)]) rfl ?_; intro a hf
          refine rd hf rfl (yl_pickFF rfl hgT1 rfl) rfl rfl ?_; intro a hf
          refine rd hf rfl (yl_move rfl) rfl rfl ?_; intro a hf
          by_cases hg14 : 16777216 < xs[k].sz
          · have hgT2 : decide (16777216 < xs[k].sz) = true := by simpa using hg14
            refine rdF hf rfl rfl rfl rfl (by first | exact hgT2 | simp [hgT2]) rfl (l' := [(33, _), (32, _), (31, _), (30, _), (29, _), (28, _), (27, _), (26, _), (25, _), (24, _), (23, _), (22, _), (21, _), (20, _), (19, _), (18, _), (15, _), (7, _), (0, _), (1, _)]) rfl ?_; intro a hf
            refine rdF hf rfl rfl rfl rfl (by first | exact hgT2 | simp [hgT2]) rfl (l' := [(34, _), (33, _), (32, _), (31, _), (30, _), (29, _), (28, _), (27, _), (26, _), (25, _), (24, _), (23, _), (22, _), (21, _), (20, _), (19, _), (18, _), (15, _), (7, _), (0, _), (1, _)]) rfl ?_; intro a hf
            refine rdF hf rfl rfl rfl rfl (by first | exact hgT2 | simp [hgT2]) rfl (l' := [(35, _), (34, _), (33, _), (32, _), (31, _), (30, _), (29, _), (28, _), (27, _), (26, _), (25, _), (24, _), (23, _), (22, _), (21, _), (20, _), (19, _), (18, _), (15, _), (7, _), (0, _), (1, _)]) rfl ?_; intro a hf
            refine rdF hf rfl rfl rfl rfl (by first | exact hgT2 | simp [hgT2]) rfl (l' := [(36, _), (35, _), (34, _), (33, _), (32, _), (31, _), (30, _), (29, _), (28, _), (27, _), (26, _), (25, _), (24, _), (23, _), (22, _), (21, _), (20, _), (19, _), (18, _), (15, _), (7, _), (0, _), (1, _)]) rfl ?_; intro a hf
            refine rdF hf rfl rfl rfl rfl (by first | exact hgT2 | simp [hgT2]) rfl (l' := [(37, _), (36, _), (35, _), (34, _), (33, _), (32, _), (31, _), (30, _), (29, _), (28, _), (27, _), (26, _), (25, _), (24, _), (23, _), (22, _), (21, _), (20, _), (19, _), (18, _), (15, _), (7, _), (0, _), (1, _)]) rfl ?_; intro a hf
            refine rdF hf rfl rfl rfl rfl (by first | exact hgT2 | simp [hgT2]) rfl (l' := [(38, _), (37, _), (36, _), (35, _), (34, _), (33, _), (32, _), (31, _), (30, _), (29, _), (28, _), (27, _), (26, _), (25, _), (24, _), (23, _), (22, _), (21, _), (20, _), (19, _), (18, _), (15, _), (7, _), (0, _), (1, _)]) rfl ?_; intro a hf
            refine rd hf rfl (yl_pickTT rfl hgT2 rfl) rfl rfl ?_; intro a hf
            refine rd hf rfl (yl_move rfl) rfl rfl ?_; intro a hf
            refine rdF hf rfl rfl rfl rfl (rfl) rfl (l' := [(41, _), (40, _), (39, _), (38, _), (37, _), (36, _), (35, _), (34, _), (33, _), (32, _), (31, _), (30, _), (29, _), (28, _), (27, _), (26, _), (25, _), (24, _), (23, _), (22, _), (21, _), (20, _), (19, _), (18, _), (15, _), (7, _), (0, _), (1, _)]) rfl ?_; intro a hf
            refine rdF hf rfl rfl rfl rfl (rfl) rfl (l' := [(42, _), (41, _), (40, _), (39, _), (38, _), (37, _), (36, _), (35, _), (34, _), (33, _), (32, _), (31, _), (30, _), (29, _), (28, _), (27, _), (26, _), (25, _), (24, _), (23, _), (22, _), (21, _), (20, _), (19, _), (18, _), (15, _), (7, _), (0, _), (1, _)]) rfl ?_; intro a hf
            refine rdF hf rfl rfl rfl rfl (rfl) rfl (l' := [(43, _), (42, _), (41, _), (40, _), (39, _), (38, _), (37, _), (36, _), (35, _), (34, _), (33, _), (32, _), (31, _), (30, _), (29, _), (28, _), (27, _), (26, _), (25, _), (24, _), (23, _), (22, _), (21, _), (20, _), (19, _), (18, _), (15, _), (7, _), (0, _), (1, _)]) rfl ?_; intro a hf
            refine rdF hf rfl rfl rfl rfl (rfl) rfl (l' := [(44, _), (43, _), (42, _), (41, _), (40, _), (39, _), (38, _), (37, _), (36, _), (35, _), (34, _), (33, _), (32, _), (31, _), (30, _), (29, _), (28, _), (27, _), (26, _), (25, _), (24, _), (23, _), (22, _), (21, _), (20, _), (19, _), (18, _), (15, _), (7, _), (0, _), (1, _)]) rfl ?_; intro a hf
            refine rdF hf rfl rfl rfl rfl (rfl) rfl (l' := [(45, _), (44, _), (43, _), (42, _), (41, _), (40, _), (39, _), (38, _), (37, _), (36, _), (35, _), (34, _), (33, _), (32, _), (31, _), (30, _), (29, _), (28, _), (27, _), (26, _), (25, _), (24, _), (23, _), (22, _), (21, _), (20, _), (19, _), (18, _), (15, _), (7, _), (0, _), (1, _)]) rfl ?_; intro a hf
            refine rdF hf rfl rfl rfl rfl (rfl) rfl (l' := [(46, _), (45, _), (44, _), (43, _), (42, _), (41, _), (40, _), (39, _), (38, _), (37, _), (36, _), (35, _), (34, _), (33, _), (32, _), (31, _), (30, _), (29, _), (28, _), (27, _), (26, _), (25, _), (24, _), (23, _), (22, _), (21, _), (20, _), (19, _), (18, _), (15, _), (7, _), (0, _), (1, _)]) rfl ?_; intro a hf
            refine rd hf rfl (yl_pickTT rfl rfl rfl) rfl rfl ?_; intro a hf
            refine plan_nil ?_
            exact ⟨(hf.sel [47, 7, 0, 1] (l' := [(47, _), (7, _), (0, _), (1, _)]) rfl).fix (congrArg Value.bool (by first | (symm; apply decide_eq_true; unfold Bad; omega) | (symm; apply decide_eq_false; unfold Bad; omega) | (apply decide_eq_decide.2; unfold Bad; omega))), hT⟩
          · have hgT2 : decide (16777216 < xs[k].sz) = false := by simpa using hg14
            refine rdT hf rfl rfl rfl rfl (by first | exact hgT2 | simp [hgT2]) (yl_move rfl) rfl (l' := [(33, _), (32, _), (31, _), (30, _), (29, _), (28, _), (27, _), (26, _), (25, _), (24, _), (23, _), (22, _), (21, _), (20, _), (19, _), (18, _), (15, _), (7, _), (0, _), (1, _)]) rfl ?_; intro a hf
            refine rdT hf rfl rfl rfl rfl (by first | exact hgT2 | simp [hgT2]) (yl_move rfl) rfl (l' := [(34, _), (33, _), (32, _), (31, _), (30, _), (29, _), (28, _), (27, _), (26, _), (25, _), (24, _), (23, _), (22, _), (21, _), (20, _), (19, _), (18, _), (15, _), (7, _), (0, _), (1, _)]) rfl ?_; intro a hf
            refine rdT hf rfl rfl rfl rfl (by first | exact hgT2 | simp [hgT2]) (yl_indexE rfl rfl Try.underlying81 sz_90 hE.app (by omega) (by omega)) rfl (l' := [(35, _), (34, _), (33, _), (32, _), (31, _), (30, _), (29, _), (28, _), (27, _), (26, _), (25, _), (24, _), (23, _), (22, _), (21, _), (20, _), (19, _), (18, _), (15, _), (7, _), (0, _), (1, _)]) rfl ?_; intro a hf
            refine rdT hf rfl rfl rfl rfl (by first | exact hgT2 | simp [hgT2]) (yl_faddr Try.underlying90 rfl rfl sz_2 rfl) rfl (l' := [(36, _), (35, _), (34, _), (33, _), (32, _), (31, _), (30, _), (29, _), (28, _), (27, _), (26, _), (25, _), (24, _), (23, _), (22, _), (21, _), (20, _), (19, _), (18, _), (15, _), (7, _), (0, _), (1, _)]) rfl ?_; intro a hf
            refine rdT hf rfl rfl rfl rfl (by first | exact hgT2 | simp [hgT2]) (yl_load Try.underlying2 rfl rfl (hE.app.cell hj (f := 1) rfl)) rfl (l' := [(37, _), (36, _), (35, _), (34, _), (33, _), (32, _), (31, _), (30, _), (29, _), (28, _), (27, _), (26, _), (25, _), (24, _), (23, _), (22, _), (21, _), (20, _), (19, _), (18, _), (15, _), (7, _), (0, _), (1, _)]) rfl ?_; intro a hf
            refine rdT hf rfl rfl rfl rfl (by first | exact hgT2 | simp [hgT2]) (yl_cmp rfl rfl rfl) rfl (l' := [(38, _), (37, _), (36, _), (35, _), (34, _), (33, _), (32, _), (31, _), (30, _), (29, _), (28, _), (27, _), (26, _), (25, _), (24, _), (23, _), (22, _), (21, _), (20, _), (19, _), (18, _), (15, _), (7, _), (0, _), (1, _)]) rfl ?_; intro a hf
            refine rd hf rfl (yl_pickFF rfl hgT2 rfl) rfl rfl ?_; intro a hf
            refine rd hf rfl (yl_move rfl) rfl rfl ?_; intro a hf
            by_cases hg22 : xs[k].wo < 0
            · have hgT3 : decide (xs[k].wo < 0) = true := by simpa using hg22
              refine rdF hf rfl rfl rfl rfl (by first | exact hgT3 | simp [hgT3]) rfl (l' := [(41, _), (40, _), (39, _), (38, _), (37, _), (36, _), (35, _), (34, _), (33, _), (32, _), (31, _), (30, _), (29, _), (28, _), (27, _), (26, _), (25, _), (24, _), (23, _), (22, _), (21, _), (20, _), (19, _), (18, _), (15, _), (7, _), (0, _), (1, _)]) rfl ?_; intro a hf
              refine rdF hf rfl rfl rfl rfl (by first | exact hgT3 | simp [hgT3]) rfl (l' := [(42, _), (41, _), (40, _), (39, _), (38, _), (37, _), (36, _), (35, _), (34, _), (33, _), (32, _), (31, _), (30, _), (29, _), (28, _), (27, _), (26, _), (25, _), (24, _), (23, _), (22, _), (21, _), (20, _), (19, _), (18, _), (15, _), (7, _), (0, _), (1, _)]) rfl ?_; intro a hf
              refine rdF hf rfl rfl rfl rfl (by first | exact hgT3 | simp [hgT3]) rfl (l' := [(43, _), (42, _), (41, _), (40, _), (39, _), (38, _), (37, _), (36, _), (35, _), (34, _), (33, _), (32, _), (31, _), (30, _), (29, _), (28, _), (27, _), (26, _), (25, _), (24, _), (23, _), (22, _), (21, _), (20, _), (19, _), (18, _), (15, _), (7, _), (0, _), (1, _)]) rfl ?_; intro a hf
              refine rdF hf rfl rfl rfl rfl (by first | exact hgT3 | simp [hgT3]) rfl (l' := [(44, _), (43, _), (42, _), (41, _), (40, _), (39, _), (38, _), (37, _), (36, _), (35, _), (34, _), (33, _), (32, _), (31, _), (30, _), (29, _), (28, _), (27, _), (26, _), (25, _), (24, _), (23, _), (22, _), (21, _), (20, _), (19, _), (18, _), (15, _), (7, _), (0, _), (1, _)]) rfl ?_; intro a hf
              refine rdF hf rfl rfl rfl rfl (by first | exact hgT3 | simp [hgT3]) rfl (l' := [(45, _), (44, _), (43, _), (42, _), (41, _), (40, _), (39, _), (38, _), (37, _), (36, _), (35, _), (34, _), (33, _), (32, _), (31, _), (30, _), (29, _), (28, _), (27, _), (26, _), (25, _), (24, _), (23, _), (22, _), (21, _), (20, _), (19, _), (18, _), (15, _), (7, _), (0, _), (1, _)]) rfl ?_; intro a hf
              refine rdF hf rfl rfl rfl rfl (by first | exact hgT3 | simp [hgT3]) rfl (l' := [(46, _), (45, _), (44, _), (43, _), (42, _), (41, _), (40, _), (39, _), (38, _), (37, _), (36, _), (35, _), (34, _), (33, _), (32, _), (31, _), (30, _), (29, _), (28, _), (27, _), (26, _), (25, _), (24, _), (23, _), (22, _), (21, _), (20, _), (19, _), (18, _), (15, _), (7, _), (0, _), (1, _)]) rfl ?_; intro a hf
              refine rd hf rfl (yl_pickTT rfl hgT3 rfl) rfl rfl ?_; intro a hf
              refine plan_nil ?_
              exact ⟨(hf.sel [47, 7, 0, 1] (l' := [(47, _), (7, _), (0, _), (1, _)]) rfl).fix (congrArg Value.bool (by first | (symm; apply decide_eq_true; unfold Bad; omega) | (symm; apply decide_eq_false; unfold Bad; omega) | (apply decide_eq_decide.2; unfold Bad; omega))), hT⟩
            · have hgT3 : decide (xs[k].wo < 0) = false := by simpa using hg22
              refine rdT hf rfl rfl rfl rfl (by first | exact hgT3 | simp [hgT3]) (yl_move rfl) rfl (l' := [(41, _), (40, _), (39, _), (38, _), (37, _), (36, _), (35, _), (34, _), (33, _), (32, _), (31, _), (30, _), (29, _), (28, _), (27, _), (26, _), (25, _), (24, _), (23, _), (22, _), (21, _), (20, _), (19, _), (18, _), (15, _), (7, _), (0, _), (1, _)]) rfl ?_; intro a hf
              refine rdT hf rfl rfl rfl rfl (by first | exact hgT3 | simp [hgT3]) (yl_move rfl) rfl (l' := [(42, _), (41, _), (40, _), (39, _), (38, _), (37, _), (36, _), (35, _), (34, _), (33, _), (32, _), (31, _), (30, _), (29, _), (28, _), (27, _), (26, _), (25, _), (24, _), (23, _), (22, _), (21, _), (20, _), (19, _), (18, _), (15, _), (7, _), (0, _), (1, _)]) rfl ?_; intro a hf
              refine rdT hf rfl rfl rfl rfl (by first | exact hgT3 | simp [hgT3]) (yl_indexE rfl rfl Try.underlying81 sz_90 hE.app (by omega) (by omega)) rfl (l' := [(43, _), (42, _), (41, _), (40, _), (39, _), (38, _), (37, _), (36, _), (35, _), (34, _), (33, _), (32, _), (31, _), (30, _), (29, _), (28, _), (27, _), (26, _), (25, _), (24, _), (23, _), (22, _), (21, _), (20, _), (19, _), (18, _), (15, _), (7, _), (0, _), (1, _)]) rfl ?_; intro a hf
              refine rdT hf rfl rfl rfl rfl (by first | exact hgT3 | simp [hgT3]) (yl_faddr Try.underlying90 rfl rfl sz_2 rfl) rfl (l' := [(44, _), (43, _), (42, _), (41, _), (40, _), (39, _), (38, _), (37, _), (36, _), (35, _), (34, _), (33, _), (32, _), (31, _), (30, _), (29, _), (28, _), (27, _), (26, _), (25, _), (24, _), (23, _), (22, _), (21, _), (20, _), (19, _), (18, _), (15, _), (7, _), (0, _), (1, _)]) rfl ?_; intro a hf
              refine rdT hf rfl rfl rfl rfl (by first | exact hgT3 | simp [hgT3]) (yl_load Try.underlying2 rfl rfl (hE.app.cell hj (f := 1) rfl)) rfl (l' := [(45, _), (44, _), (43, _), (42, _), (41, _), (40, _), (39, _), (38, _), (37, _), (36, _), (35, _), (34, _), (33, _), (32, _), (31, _), (30, _), (29, _), (28, _), (27, _), (26, _), (25, _), (24, _), (23, _), (22, _), (21, _), (20, _), (19, _), (18, _), (15, _), (7, _), (0, _), (1, _)]) rfl ?_; intro a hf
              refine rdT hf rfl rfl rfl rfl (by first | exact hgT3 | simp [hgT3]) (yl_cmp rfl rfl rfl) rfl (l' := [(46, _), (45, _), (44, _), (43, _), (42, _), (41, _), (40, _), (39, _), (38, _), (37, _), (36, _), (35, _), (34, _), (33, _), (32, _), (31, _), (30, _), (29, _), (28, _), (27, _), (26, _), (25, _), (24, _), (23, _), (22, _), (21, _), (20, _), (19, _), (18, _), (15, _), (7, _), (0, _), (1, _)]) rfl ?_; intro a hf
              refine rd hf rfl (yl_pickFF rfl hgT3 rfl) rfl rfl ?_; intro a hf
              refine plan_nil ?_
              exact ⟨(hf.sel [47, 7, 0, 1] (l' := [(47, _), (7, _), (0, _), (1, _)]) rfl).fix (congrArg Value.bool (by first | (symm; apply decide_eq_true; unfold Bad; omega) | (symm; apply decide_eq_false; unfold Bad; omega) | (apply decide_eq_decide.2; unfold Bad; omega))), hT⟩
      · clear hf hf0 hT; intro a w hf hT
        refine wp_ifd hf rfl (fun hbad => ?_) (fun hbad => ?_)
        · -- then
          have hnok : ¬ ∀ x ∈ xs, Pok x := fun h => (bad_ok _).2 (h _ (List.getElem_mem hltk)) hbad
          refine wpIn_seq ?_
          -- region 7 (ref.go:218)
          refine wp_reg ([]) ([] ++ rs) [(0, true), (1, true), (2, true)] mixed (by kernel_rfl) (hT) ?_; intro w hT
          refine rd hf rfl (yl_assign rfl) rfl rfl ?_; intro a hf
          refine rd hf rfl (yl_assign rfl) rfl rfl ?_; intro a hf
          refine rd hf rfl (yl_assign rfl) rfl rfl ?_; intro a hf
          refine plan_nil ?_
          replace hf := hf.sel [6, 5, 4] (l' := [(6, _), (5, _), (4, _)]) rfl
          refine wpIn_ret ?_
          replace hT := hT.emp
          exact body_ret hf (L := [_]) hT rfl rfl ⟨_, [], _, _, _, rfl, els_nil, rfl, .inr (.inl ⟨by omega, hnok, rfl, rfl, rfl⟩)⟩
        · -- else
          refine wpIn_skip ?_
          -- region 5 (ref.go:216)
          refine wp_reg ([]) ([] ++ rs) [(0, true), (1, true), (2, true)] mixed (by kernel_rfl) (hT) ?_; intro w hT
          refine rd hf rfl (yl_move rfl) rfl rfl ?_; intro a hf
          refine rd hf rfl (yl_add rfl rfl (by unfold inI64; omega)) rfl rfl ?_; intro a hf
          refine rw_ hf rfl (yl_assign rfl) rfl (l' := [(7, _), (17, _), (16, _), (47, _), (0, _), (1, _)]) rfl ?_; intro a hf
          refine plan_nil ?_
          replace hf := hf.sel [7, 0, 1] (l' := [(7, _), (0, _), (1, _)]) rfl
          exact ⟨k + 1, _, hf.sel [7, 0, 1] rfl, ⟨rfl, by omega, fun j hj h => by by_cases hjk : j = k; subst hjk; exact hbad; exact ho j hj (by omega)⟩, hT, by first | omega | (dsimp only; omega)⟩
    · -- else
      obtain rfl : k = xs.length := by omega
      have hxs : ∀ x ∈ xs, Pok x := fun x hx => (bad_ok x).1 (by obtain ⟨j, hj, rfl⟩ := List.getElem_of_mem hx; exact ho j hj hj)
      refine wpIn_exit ?_
      refine then_exit ?_
      refine then_exit ?_
      refine inBlock_hit ?_
      refine wpIn_seq ?_
      refine wpIn_seq ?_
      -- region 8 (ref.go:221)
      refine wp_reg ([]) ([] ++ rs) [(0, true), (1, true), (2, true), (3, true), (4, true), (5, true)] mixed (by kernel_rfl) (hT) ?_; intro w hT
      refine rd hf rfl (yl_move rfl) rfl rfl ?_; intro a hf
      refine rd hf rfl (yl_cmp rfl rfl rfl) rfl rfl ?_; intro a hf
      refine rd hf rfl (yl_move rfl) rfl rfl ?_; intro a hf
      by_cases hg2 : m < 0
      · have hgT4 : decide (m < 0) = true := by simpa using hg2
        have hrng : m < 0 ∨ 16777216 < m := .inl hg2
        refine rdF hf rfl rfl rfl rfl (by first | exact hgT4 | simp [hgT4]) rfl (l' := [(51, _), (50, _), (49, _), (48, _), (15, _), (7, _), (0, _), (1, _)]) rfl ?_; intro a hf
        refine rdF hf rfl rfl rfl rfl (by first | exact hgT4 | simp [hgT4]) rfl (l' := [(52, _), (51, _), (50, _), (49, _), (48, _), (15, _), (7, _), (0, _), (1, _)]) rfl ?_; intro a hf
        refine rd hf rfl (yl_pickTT rfl hgT4 rfl) rfl rfl ?_; intro a hf
        refine plan_nil ?_
        replace hf := hf.sel [53, 0, 1] (l' := [(53, _), (0, _), (1, _)]) rfl
        refine wp_ifTT hf rfl (rfl) ?_
        refine wpIn_seq ?_
        -- region 9 (ref.go:222)
        refine wp_reg ([]) ([] ++ rs) [(0, true), (1, true), (2, true)] mixed (by kernel_rfl) (hT) ?_; intro w hT
        refine rd hf rfl (yl_assign rfl) rfl rfl ?_; intro a hf
        refine rd hf rfl (yl_assign rfl) rfl rfl ?_; intro a hf
        refine rd hf rfl (yl_assign rfl) rfl rfl ?_; intro a hf
        refine plan_nil ?_
        replace hf := hf.sel [6, 5, 4] (l' := [(6, _), (5, _), (4, _)]) rfl
        refine wpIn_ret ?_
        replace hT := hT.emp
        exact body_ret hf (L := [_]) hT rfl rfl ⟨_, [], _, _, _, rfl, els_nil, rfl, .inr (.inr (.inl ⟨by omega, hxs, hrng, rfl, rfl, rfl⟩))⟩
      · have hgT4 : decide (m < 0) = false := by simpa using hg2
        refine rdT hf rfl rfl rfl rfl (by first | exact hgT4 | simp [hgT4]) (yl_move rfl) rfl (l' := [(51, _), (50, _), (49, _), (48, _), (15, _), (7, _), (0, _), (1, _)]) rfl ?_; intro a hf
        refine rdT hf rfl rfl rfl rfl (by first | exact hgT4 | simp [hgT4]) (yl_cmp rfl rfl rfl) rfl (l' := [(52, _), (51, _), (50, _), (49, _), (48, _), (15, _), (7, _), (0, _), (1, _)]) rfl ?_; intro a hf
        refine rd hf rfl (yl_pickFF rfl hgT4 rfl) rfl rfl ?_; intro a hf
        refine plan_nil ?_
        replace hf := hf.sel [53, 0, 1] (l' := [(53, _), (0, _), (1, _)]) rfl
        refine wp_ifd hf rfl (fun hr2 => ?_) (fun hr2 => ?_)
        · -- then
          have hrng : m < 0 ∨ 16777216 < m := .inr hr2
          refine wpIn_seq ?_
          -- region 9 (ref.go:222)
          refine wp_reg ([]) ([] ++ rs) [(0, true), (1, true), (2, true)] mixed (by kernel_rfl) (hT) ?_; intro w hT
          refine rd hf rfl (yl_assign rfl) rfl rfl ?_; intro a hf
          refine rd hf rfl (yl_assign rfl) rfl rfl ?_; intro a hf
          refine rd hf rfl (yl_assign rfl) rfl rfl ?_; intro a hf
          refine plan_nil ?_
          replace hf := hf.sel [6, 5, 4] (l' := [(6, _), (5, _), (4, _)]) rfl
          refine wpIn_ret ?_
          replace hT := hT.emp
          exact body_ret hf (L := [_]) hT rfl rfl ⟨_, [], _, _, _, rfl, els_nil, rfl, .inr (.inr (.inl ⟨by omega, hxs, hrng, rfl, rfl, rfl⟩))⟩
        · -- else
          have hrng : ¬ (m < 0 ∨ 16777216 < m) := by omega
          refine wpIn_skip ?_
          refine wpIn_seq ?_
          -- region 10 (ref.go:224)
          refine wp_reg ([]) ([] ++ rs) [(0, true), (1, true), (2, true), (3, false), (4, false), (5, false)] mixed (by kernel_rfl) (hT) ?_; intro w hT
          refine rd hf rfl (yl_move rfl) rfl rfl ?_; intro a hf
          refine rd hf rfl (yl_move rfl) rfl rfl ?_; intro a hf
          refine rd hf rfl (yl_build rfl Try.underlying147 zr_147 (places := [(0, 1), (1, 1), (2, 1)]) (by kernel_rfl) (by kernel_rfl) rfl) rfl rfl ?_; intro a hf
          refine ef_call hf rfl (wanted_none _ _ rfl) rfl rfl (by kernel_rfl) (Spec.frame (L2 := []) (rbest_spec xs (by omega) hxs m (by omega) (xs.length - 0) 0 rfl (Nat.zero_le _) _ (.slice none 0 0) [] 0 0 _ _ hT hE.app els_nil (.inl ⟨rfl, rfl⟩) (Nat.le_refl _) (Int.le_refl _) (by decide) (Int.le_refl _) (by omega))) rfl (l' := [(56, _), (55, _), (54, _), (53, _), (0, _), (1, _)]) rfl ?_; rintro a w v L ⟨L1, ⟨q', t, Y, rfl, htop, hR, rfl⟩, rfl⟩ hf hT
          obtain ⟨A2, c2, rfl⟩ := hR.shape (R := []) els_nil
          refine ef hf hT rfl rfl (ef_alloc zr_147) rfl (l' := [(57, _), (56, _), (55, _), (54, _), (53, _), (0, _), (1, _)]) rfl ?_; rintro a w v L ⟨b1, rfl, rfl⟩ hf hT
          refine efS hf hT rfl rfl (ef_storeW rfl rfl sz_147 rfl rfl rfl) ?_; rintro w L rfl hT
          refine plan_nil ?_
          replace hf := hf.sel [8] (l' := [(8, _)]) rfl
          refine wpIn_seq ?_
          -- region 11 (ref.go:225)
          refine wp_reg ([]) ([_, _] ++ rs) [(0, true), (1, true), (2, true), (3, true), (4, true), (5, true), (6, true)] mixed (by kernel_rfl) (hT) ?_; intro w hT
          refine rd hf rfl (yl_faddr Try.underlying147 rfl rfl sz_82 (k := 0) rfl) rfl rfl ?_; intro a hf
          refine rd hf rfl (yl_load Try.underlying82 rfl rfl ⟨_, .head _, _, _, _, pt_self _ _, rfl⟩) rfl rfl ?_; intro a hf
          refine rd hf rfl (yl_faddr Try.underlying147 rfl rfl sz_2 (k := 1) rfl) rfl rfl ?_; intro a hf
          refine rd hf rfl (yl_load Try.underlying2 rfl rfl ⟨_, .head _, _, _, _, pt_self _ _, rfl⟩) rfl rfl ?_; intro a hf
          refine rd hf rfl (yl_assign rfl) rfl rfl ?_; intro a hf
          refine rd hf rfl (yl_assign rfl) rfl rfl ?_; intro a hf
          refine rd hf rfl (yl_assign rfl) rfl rfl ?_; intro a hf
          refine plan_nil ?_
          replace hf := hf.sel [6, 5, 4] (l' := [(6, _), (5, _), (4, _)]) rfl
          refine wpIn_ret ?_
          have hE2 : Els encI [Y] (.slice A2 (cidxI xs.length 24 0 t.b).length c2) (cidxI xs.length 24 0 t.b) := by
            rcases hR with ⟨h1, h2⟩ | h
            · have h3 : cidxI xs.length 24 0 t.b = [] := h2
              rw [show ([] ++ cidxI (xs.length - 0) (24 - 0) 0 t.b : List Int) = cidxI xs.length 24 0 t.b from rfl] at h1
              rw [h1, h3]; exact els_nil
            · exact h
          rw [Int.sub_zero] at htop
          exact body_ret hf (L := [_]) ((hT.brings [0]).tail) rfl rfl ⟨_, _, _, _, _, rfl, hE2, rfl, .inr (.inr (.inr ⟨by omega, hxs, hrng, rfl, t, htop, rfl, by omega⟩))⟩
theorem Els.els {α : Type} {E : Enc α} {X : Part} {R : List Part} {v : Value} {xs : List α} (h : Els E [X] v xs) (hX : X ∈ R) : Els E R v xs := h.mono fun x hx => by rw [List.mem_singleton.1 hx]; exact hX
theorem BufferChooses_spec {e : Env} {w : World} {rs : List Part} (xs : List Pcl) (v0 : Value) (hE : Els encPl rs v0 xs) (hcap0 : xs.length ≤ capOf v0) (m : Int) (hT : Tot e w rs) : Spec Try.prog 7 #[v0, .int .i64 m] e w rs (fun v L => v = .bool true ∧ L = []) := by
  refine spec_body Try.func7 rfl Try.ntmps7 rfl rfl ?_
  intro a hf
  obtain ⟨A0, cp, rfl, _, _⟩ := hE.shape
  have hcap : xs.length ≤ cp := hcap0
  refine wpIn_seq ?_
  -- region 0 (law.go:170)
  refine wp_reg ([]) ([] ++ rs) [(0, true)] mixed (by kernel_rfl) (hT) ?_; intro w hT
  refine rd hf rfl (yl_assign rfl) rfl rfl ?_; intro a hf
  refine plan_nil ?_
  refine wpIn_seq ?_
  refine wpIn_seq ?_
  -- region 1 (law.go:171)
  refine wp_reg ([]) ([] ++ rs) [(0, true), (1, true), (2, true), (3, true), (4, true), (5, true), (6, true), (7, true), (8, true), (9, true), (10, true), (11, true), (12, true)] mixed (by kernel_rfl) (hT) ?_; intro w hT
  refine rd hf rfl (yl_move rfl) rfl rfl ?_; intro a hf
  refine rd hf rfl (yl_lenE rfl Try.underlying81 hE.app) rfl rfl ?_; intro a hf
  refine rd hf rfl (yl_cmp rfl rfl rfl) rfl rfl ?_; intro a hf
  refine rd hf rfl (yl_move rfl) rfl rfl ?_; intro a hf
  by_cases hg3 : (11 : Int) < (xs.length : Nat)
  · have hgT1 : decide ((11 : Int) < (xs.length : Nat)) = true := by simpa using hg3
    refine rdT hf rfl rfl rfl rfl (by first | exact hgT1 | simp [hgT1]) (yl_move rfl) rfl (l' := [(16, _), (15, _), (14, _), (13, _), (12, _), (4, _), (0, _), (1, _)]) rfl ?_; intro a hf
    refine rdT hf rfl rfl rfl rfl (by first | exact hgT1 | simp [hgT1]) (yl_lenE rfl Try.underlying81 hE.app) rfl (l' := [(17, _), (16, _), (15, _), (14, _), (13, _), (12, _), (4, _), (0, _), (1, _)]) rfl ?_; intro a hf
    refine rdT hf rfl rfl rfl rfl (by first | exact hgT1 | simp [hgT1]) (yl_cmp rfl rfl rfl) rfl (l' := [(18, _), (17, _), (16, _), (15, _), (14, _), (13, _), (12, _), (4, _), (0, _), (1, _)]) rfl ?_; intro a hf
    refine rd hf rfl (yl_pickTT rfl hgT1 rfl) rfl rfl ?_; intro a hf
    refine rd hf rfl (yl_move rfl) rfl rfl ?_; intro a hf
    by_cases hg8 : ((xs.length : Nat) : Int) ≤ 24
    · have hgT2 : decide (((xs.length : Nat) : Int) ≤ 24) = true := by simpa using hg8
      refine rdF hf rfl rfl rfl rfl (by first | exact hgT2 | simp [hgT2]) rfl (l' := [(21, _), (20, _), (19, _), (18, _), (17, _), (16, _), (15, _), (14, _), (13, _), (12, _), (4, _), (0, _), (1, _)]) rfl ?_; intro a hf
      refine rdF hf rfl rfl rfl rfl (by first | exact hgT2 | simp [hgT2]) rfl (l' := [(22, _), (21, _), (20, _), (19, _), (18, _), (17, _), (16, _), (15, _), (14, _), (13, _), (12, _), (4, _), (0, _), (1, _)]) rfl ?_; intro a hf
      refine rdF hf rfl rfl rfl rfl (by first | exact hgT2 | simp [hgT2]) rfl (l' := [(23, _), (22, _), (21, _), (20, _), (19, _), (18, _), (17, _), (16, _), (15, _), (14, _), (13, _), (12, _), (4, _), (0, _), (1, _)]) rfl ?_; intro a hf
      refine rd hf rfl (yl_pickTT rfl hgT2 rfl) rfl rfl ?_; intro a hf
      refine plan_nil ?_
      replace hf := hf.sel [24, 0, 1] (l' := [(24, _), (0, _), (1, _)]) rfl
      refine wp_ifTT hf rfl (rfl) ?_
      refine wpIn_seq ?_
      -- region 2 (law.go:172)
      refine wp_reg ([]) ([] ++ rs) [(0, false), (1, true)] mixed (by kernel_rfl) (hT) ?_; intro w hT
      refine ef_call hf rfl (wanted_none _ _ rfl) rfl rfl (by kernel_rfl) (Spec.frame (L2 := []) (fine_spec hT)) rfl (l' := [(24, _), (0, _), (1, _)]) rfl ?_; rintro a w v L ⟨L1, ⟨rfl, rfl⟩, rfl⟩ hf hT
      refine rd hf rfl (yl_assign rfl) rfl rfl ?_; intro a hf
      refine plan_nil ?_
      replace hf := hf.sel [4] (l' := [(4, _)]) rfl
      refine wpIn_ret ?_
      exact body_ret hf (L := []) hT rfl rfl ⟨rfl, rfl⟩
    · have hgT2 : decide (((xs.length : Nat) : Int) ≤ 24) = false := by simpa using hg8
      refine rdT hf rfl rfl rfl rfl (by first | exact hgT2 | simp [hgT2]) (yl_move rfl) rfl (l' := [(21, _), (20, _), (19, _), (18, _), (17, _), (16, _), (15, _), (14, _), (13, _), (12, _), (4, _), (0, _), (1, _)]) rfl ?_; intro a hf
      refine rdT hf rfl rfl rfl rfl (by first | exact hgT2 | simp [hgT2]) (yl_lenE rfl Try.underlying81 hE.app) rfl (l' := [(22, _), (21, _), (20, _), (19, _), (18, _), (17, _), (16, _), (15, _), (14, _), (13, _), (12, _), (4, _), (0, _), (1, _)]) rfl ?_; intro a hf
      refine rdT hf rfl rfl rfl rfl (by first | exact hgT2 | simp [hgT2]) (yl_cmp rfl rfl rfl) rfl (l' := [(23, _), (22, _), (21, _), (20, _), (19, _), (18, _), (17, _), (16, _), (15, _), (14, _), (13, _), (12, _), (4, _), (0, _), (1, _)]) rfl ?_; intro a hf
      refine rd hf rfl (yl_pickFF rfl hgT2 rfl) rfl rfl ?_; intro a hf
      refine plan_nil ?_
      replace hf := hf.sel [24, 0, 1] (l' := [(24, _), (0, _), (1, _)]) rfl
      refine wp_ifd hf rfl (fun h40 => ?_) (fun h40 => ?_)
      · -- then
        refine wpIn_seq ?_
        -- region 2 (law.go:172)
        refine wp_reg ([]) ([] ++ rs) [(0, false), (1, true)] mixed (by kernel_rfl) (hT) ?_; intro w hT
        refine ef_call hf rfl (wanted_none _ _ rfl) rfl rfl (by kernel_rfl) (Spec.frame (L2 := []) (fine_spec hT)) rfl (l' := [(24, _), (0, _), (1, _)]) rfl ?_; rintro a w v L ⟨L1, ⟨rfl, rfl⟩, rfl⟩ hf hT
        refine rd hf rfl (yl_assign rfl) rfl rfl ?_; intro a hf
        refine plan_nil ?_
        replace hf := hf.sel [4] (l' := [(4, _)]) rfl
        refine wpIn_ret ?_
        exact body_ret hf (L := []) hT rfl rfl ⟨rfl, rfl⟩
      · -- else
        refine wpIn_skip ?_
        refine wpIn_seq ?_
        -- region 3 (law.go:174)
        refine wp_reg ([]) ([] ++ rs) [(0, true), (1, true), (2, false), (3, true), (4, true), (5, true), (6, true), (7, true), (8, true), (9, true)] mixed (by kernel_rfl) (hT) ?_; intro w hT
        refine rd hf rfl (yl_move rfl) rfl rfl ?_; intro a hf
        refine rd hf rfl (yl_move rfl) rfl rfl ?_; intro a hf
        refine ef_call hf rfl (wanted_none _ _ rfl) rfl rfl (by kernel_rfl) (Spec.frame (L2 := []) (Best_spec xs A0 cp hE.app hcap m hT)) rfl (l' := [(28, _), (27, _), (24, _), (0, _), (1, _)]) rfl ?_; rintro a w v L ⟨L1, ⟨q1, o1, w1, e1, X1, rfl, hX1, rfl, hb1⟩, rfl⟩ hf hT
        refine rd hf rfl (yl_move rfl) rfl rfl ?_; intro a hf
        refine rd hf rfl (yl_extract rfl rfl) rfl rfl ?_; intro a hf
        refine rd hf rfl (yl_extract rfl rfl) rfl rfl ?_; intro a hf
        refine rd hf rfl (yl_extract rfl rfl) rfl rfl ?_; intro a hf
        refine rd hf rfl (yl_assign rfl) rfl rfl ?_; intro a hf
        refine rd hf rfl (yl_assign rfl) rfl rfl ?_; intro a hf
        refine rd hf rfl (yl_assign rfl) rfl rfl ?_; intro a hf
        refine plan_nil ?_
        replace hf := hf.sel [7, 6, 5, 0, 1] (l' := [(7, _), (6, _), (5, _), (0, _), (1, _)]) rfl
        refine wpIn_seq ?_
        -- region 4 (law.go:175)
        refine wp_reg ([]) ([_] ++ rs) [(0, true), (1, true), (2, false), (3, true), (4, true), (5, true), (6, true), (7, true), (8, true), (9, true)] mixed (by kernel_rfl) (hT) ?_; intro w hT
        refine rd hf rfl (yl_move rfl) rfl rfl ?_; intro a hf
        refine rd hf rfl (yl_move rfl) rfl rfl ?_; intro a hf
        refine ef_call hf rfl (wanted_none _ _ rfl) rfl rfl (by kernel_rfl) (Spec.frame (L2 := []) (rBest_spec xs _ hE.app m hT)) rfl (l' := [(35, _), (34, _), (7, _), (6, _), (5, _), (0, _), (1, _)]) rfl ?_; rintro a w v L ⟨L1, ⟨q2, o2, w2, e2, Y2, rfl, hY2, rfl, hb2⟩, rfl⟩ hf hT
        obtain ⟨hd1, hd2, hd3⟩ := hb1.det hb2
        subst hd1 hd2 hd3
        have hlo := hX1.len_le
        refine rd hf rfl (yl_move rfl) rfl rfl ?_; intro a hf
        refine rd hf rfl (yl_extract rfl rfl) rfl rfl ?_; intro a hf
        refine rd hf rfl (yl_extract rfl rfl) rfl rfl ?_; intro a hf
        refine rd hf rfl (yl_extract rfl rfl) rfl rfl ?_; intro a hf
        refine rd hf rfl (yl_assign rfl) rfl rfl ?_; intro a hf
        refine rd hf rfl (yl_assign rfl) rfl rfl ?_; intro a hf
        refine rd hf rfl (yl_assign rfl) rfl rfl ?_; intro a hf
        refine plan_nil ?_
        replace hf := hf.sel [10, 9, 8, 7, 6, 5] (l' := [(10, _), (9, _), (8, _), (7, _), (6, _), (5, _)]) rfl
        refine wpIn_seq ?_
        refine wpIn_seq ?_
        -- region 5 (law.go:176)
        refine wp_reg ([]) ([_, _] ++ rs) [(0, true), (1, true), (2, true), (3, true), (4, true), (5, true), (6, true), (7, true), (8, true), (9, true), (10, true), (11, true), (12, true), (13, true), (14, true)] mixed (by kernel_rfl) (hT) ?_; intro w hT
        refine rd hf rfl (yl_move rfl) rfl rfl ?_; intro a hf
        refine rd hf rfl (yl_move rfl) rfl rfl ?_; intro a hf
        refine rd hf rfl (yl_cmp rfl rfl rfl) rfl rfl ?_; intro a hf
        refine rd hf rfl (yl_move rfl) rfl rfl ?_; intro a hf
        refine rdT hf rfl rfl rfl rfl (by first | exact (decide_eq_false (fun h => h rfl)) | simp [(decide_eq_false (fun h => h rfl))]) (yl_move rfl) rfl (l' := [(44, _), (43, _), (42, _), (41, _), (40, _), (10, _), (9, _), (8, _), (7, _), (6, _), (5, _)]) rfl ?_; intro a hf
        refine rdT hf rfl rfl rfl rfl (by first | exact (decide_eq_false (fun h => h rfl)) | simp [(decide_eq_false (fun h => h rfl))]) (yl_move rfl) rfl (l' := [(45, _), (44, _), (43, _), (42, _), (41, _), (40, _), (10, _), (9, _), (8, _), (7, _), (6, _), (5, _)]) rfl ?_; intro a hf
        refine rdT hf rfl rfl rfl rfl (by first | exact (decide_eq_false (fun h => h rfl)) | simp [(decide_eq_false (fun h => h rfl))]) (yl_cmp rfl rfl rfl) rfl (l' := [(46, _), (45, _), (44, _), (43, _), (42, _), (41, _), (40, _), (10, _), (9, _), (8, _), (7, _), (6, _), (5, _)]) rfl ?_; intro a hf
        refine rd hf rfl (yl_pickFF rfl (decide_eq_false (fun h => h rfl)) rfl) rfl rfl ?_; intro a hf
        refine rd hf rfl (yl_move rfl) rfl rfl ?_; intro a hf
        refine rdT hf rfl rfl rfl rfl (by first | exact (decide_eq_false (fun h => h rfl)) | simp [(decide_eq_false (fun h => h rfl))]) (yl_move rfl) rfl (l' := [(49, _), (48, _), (47, _), (46, _), (45, _), (44, _), (43, _), (42, _), (41, _), (40, _), (10, _), (9, _), (8, _), (7, _), (6, _), (5, _)]) rfl ?_; intro a hf
        refine rdT hf rfl rfl rfl rfl (by first | exact (decide_eq_false (fun h => h rfl)) | simp [(decide_eq_false (fun h => h rfl))]) (yl_lenE rfl Try.underlying82 (hX1.els (.tail _ (.head _)))) rfl (l' := [(50, _), (49, _), (48, _), (47, _), (46, _), (45, _), (44, _), (43, _), (42, _), (41, _), (40, _), (10, _), (9, _), (8, _), (7, _), (6, _), (5, _)]) rfl ?_; intro a hf
        refine rdT hf rfl rfl rfl rfl (by first | exact (decide_eq_false (fun h => h rfl)) | simp [(decide_eq_false (fun h => h rfl))]) (yl_move rfl) rfl (l' := [(51, _), (50, _), (49, _), (48, _), (47, _), (46, _), (45, _), (44, _), (43, _), (42, _), (41, _), (40, _), (10, _), (9, _), (8, _), (7, _), (6, _), (5, _)]) rfl ?_; intro a hf
        refine rdT hf rfl rfl rfl rfl (by first | exact (decide_eq_false (fun h => h rfl)) | simp [(decide_eq_false (fun h => h rfl))]) (yl_lenE rfl Try.underlying82 (hY2.els (.head _))) rfl (l' := [(52, _), (51, _), (50, _), (49, _), (48, _), (47, _), (46, _), (45, _), (44, _), (43, _), (42, _), (41, _), (40, _), (10, _), (9, _), (8, _), (7, _), (6, _), (5, _)]) rfl ?_; intro a hf
        refine rdT hf rfl rfl rfl rfl (by first | exact (decide_eq_false (fun h => h rfl)) | simp [(decide_eq_false (fun h => h rfl))]) (yl_cmp rfl rfl rfl) rfl (l' := [(53, _), (52, _), (51, _), (50, _), (49, _), (48, _), (47, _), (46, _), (45, _), (44, _), (43, _), (42, _), (41, _), (40, _), (10, _), (9, _), (8, _), (7, _), (6, _), (5, _)]) rfl ?_; intro a hf
        refine rd hf rfl (yl_pickFF rfl (decide_eq_false (fun h => h rfl)) rfl) rfl rfl ?_; intro a hf
        refine plan_nil ?_
        replace hf := hf.sel [54, 8, 5] (l' := [(54, _), (8, _), (5, _)]) rfl
        refine wp_ifd hf rfl (fun hl => ?_) (fun hl => ?_)
        · -- then
          exact absurd rfl hl
        · -- else
          refine wpIn_skip ?_
          refine wpIn_seq ?_
          refine wpIn_seq ?_
          -- region 7 (law.go:179)
          refine wp_reg ([]) ([_, _] ++ rs) [(0, true)] mixed (by kernel_rfl) (hT) ?_; intro w hT
          refine rd hf rfl (yl_assign rfl) rfl rfl ?_; intro a hf
          refine plan_nil ?_
          refine wpIn_block ?_
          refine wp_loopS (σ := Nat) (fun k => [(11, .int .i64 (k : Nat))]) [(8, _), (5, _)] (fun k L => L = [] ∧ k ≤ o1.length) (fun k => o1.length - k) 0 (L := []) (R := [_, _] ++ rs) (hf.sel [11, 8, 5] rfl) (⟨rfl, Nat.zero_le _⟩) hT ?_
          clear hf hT; rintro k a w L hf ⟨rfl, hk⟩ hT
          replace hf : Fr _ [(11, .int .i64 (k : Nat)), (8, _), (5, _)] _ _ := hf
          refine wpIn_seq ?_
          refine wpIn_seq ?_
          -- region 8 (law.go:179)
          refine wp_reg ([]) ([_, _] ++ rs) [(0, true), (1, true), (2, true), (3, true)] mixed (by kernel_rfl) (hT) ?_; intro w hT
          refine rd hf rfl (yl_move rfl) rfl rfl ?_; intro a hf
          refine rd hf rfl (yl_move rfl) rfl rfl ?_; intro a hf
          refine rd hf rfl (yl_lenE rfl Try.underlying82 (hX1.els (.tail _ (.head _)))) rfl rfl ?_; intro a hf
          refine rd hf rfl (yl_cmp rfl rfl rfl) rfl rfl ?_; intro a hf
          refine plan_nil ?_
          replace hf := hf.sel [58, 11, 8, 5] (l' := [(58, _), (11, _), (8, _), (5, _)]) rfl
          refine wp_ifd hf rfl (fun hlt => ?_) (fun hlt => ?_)
          · -- then
            have hltk : k < o1.length := by omega
            have hj : o1[k]? = some o1[k] := List.getElem?_eq_getElem hltk
            refine wpIn_skip ?_
            refine wpIn_seq ?_
            refine wpIn_block ?_
            refine wpIn_seq ?_
            -- region 10 (law.go:180)
            refine wp_reg ([]) ([_, _] ++ rs) [(0, true), (1, true), (2, true), (3, true), (4, true), (5, true), (6, true), (7, true), (8, true)] mixed (by kernel_rfl) (hT) ?_; intro w hT
            refine rd hf rfl (yl_move rfl) rfl rfl ?_; intro a hf
            refine rd hf rfl (yl_move rfl) rfl rfl ?_; intro a hf
            refine rd hf rfl (yl_indexE rfl rfl Try.underlying82 sz_3 (hX1.els (.tail _ (.head _))) (by omega) (by omega)) rfl rfl ?_; intro a hf
            refine rd hf rfl (yl_load Try.underlying3 rfl rfl ((hX1.els (.tail _ (.head _))).cell hj (f := 0) rfl)) rfl rfl ?_; intro a hf
            refine rd hf rfl (yl_move rfl) rfl rfl ?_; intro a hf
            refine rd hf rfl (yl_move rfl) rfl rfl ?_; intro a hf
            refine rd hf rfl (yl_indexE rfl rfl Try.underlying82 sz_3 (hY2.els (.head _)) (by omega) (by omega)) rfl rfl ?_; intro a hf
            refine rd hf rfl (yl_load Try.underlying3 rfl rfl ((hY2.els (.head _)).cell hj (f := 0) rfl)) rfl rfl ?_; intro a hf
            refine rd hf rfl (yl_cmp rfl rfl rfl) rfl rfl ?_; intro a hf
            refine plan_nil ?_
            replace hf := hf.sel [69, 11, 8, 5] (l' := [(69, _), (11, _), (8, _), (5, _)]) rfl
            refine wp_ifd hf rfl (fun hne => ?_) (fun hne => ?_)
            · -- then
              exact absurd rfl hne
            · -- else
              refine wpIn_skip ?_
              -- region 9 (law.go:179)
              refine wp_reg ([]) ([_, _] ++ rs) [(0, true), (1, true), (2, true)] mixed (by kernel_rfl) (hT) ?_; intro w hT
              refine rd hf rfl (yl_move rfl) rfl rfl ?_; intro a hf
              refine rd hf rfl (yl_add rfl rfl (by unfold inI64; omega)) rfl rfl ?_; intro a hf
              refine rw_ hf rfl (yl_assign rfl) rfl (l' := [(11, _), (60, _), (59, _), (69, _), (8, _), (5, _)]) rfl ?_; intro a hf
              refine plan_nil ?_
              replace hf := hf.sel [11, 8, 5] (l' := [(11, _), (8, _), (5, _)]) rfl
              exact ⟨k + 1, _, hf.sel [11, 8, 5] rfl, ⟨rfl, by omega⟩, hT, by first | omega | (dsimp only; omega)⟩
          · -- else
            refine wpIn_exit ?_
            refine then_exit ?_
            refine then_exit ?_
            refine inBlock_hit ?_
            refine wpIn_seq ?_
            -- region 12 (law.go:184)
            refine wp_reg ([]) ([_, _] ++ rs) [(0, false), (1, true)] mixed (by kernel_rfl) (hT) ?_; intro w hT
            refine ef_call hf rfl (wanted_none _ _ rfl) rfl rfl (by kernel_rfl) (Spec.frame (L2 := []) (fine_spec hT)) rfl (l' := [(58, _), (11, _), (8, _), (5, _)]) rfl ?_; rintro a w v L ⟨L1, ⟨rfl, rfl⟩, rfl⟩ hf hT
            refine rd hf rfl (yl_assign rfl) rfl rfl ?_; intro a hf
            refine plan_nil ?_
            replace hf := hf.sel [4] (l' := [(4, _)]) rfl
            refine wpIn_ret ?_
            exact body_ret hf (L := []) hT.tail.tail rfl rfl ⟨rfl, rfl⟩
  · have hgT1 : decide ((11 : Int) < (xs.length : Nat)) = false := by simpa using hg3
    refine rdF hf rfl rfl rfl rfl (by first | exact hgT1 | simp [hgT1]) rfl (l' := [(16, _), (15, _), (14, _), (13, _), (12, _), (4, _), (0, _), (1, _)]) rfl ?_; intro a hf
    refine rdF hf rfl rfl rfl rfl (by first | exact hgT1 | simp [hgT1]) rfl (l' := [(17, _), (16, _), (15, _), (14, _), (13, _), (12, _), (4, _), (0, _), (1, _)]) rfl ?_; intro a hf
    refine rdF hf rfl rfl rfl rfl (by first | exact hgT1 | simp [hgT1]) rfl (l' := [(18, _), (17, _), (16, _), (15, _), (14, _), (13, _), (12, _), (4, _), (0, _), (1, _)]) rfl ?_; intro a hf
    refine rd hf rfl (yl_pickFF rfl hgT1 rfl) rfl rfl ?_; intro a hf
    refine rd hf rfl (yl_move rfl) rfl rfl ?_; intro a hf
    refine rdT hf rfl rfl rfl rfl (rfl) (yl_move rfl) rfl (l' := [(21, _), (20, _), (19, _), (18, _), (17, _), (16, _), (15, _), (14, _), (13, _), (12, _), (4, _), (0, _), (1, _)]) rfl ?_; intro a hf
    refine rdT hf rfl rfl rfl rfl (rfl) (yl_lenE rfl Try.underlying81 hE.app) rfl (l' := [(22, _), (21, _), (20, _), (19, _), (18, _), (17, _), (16, _), (15, _), (14, _), (13, _), (12, _), (4, _), (0, _), (1, _)]) rfl ?_; intro a hf
    refine rdT hf rfl rfl rfl rfl (rfl) (yl_cmp rfl rfl rfl) rfl (l' := [(23, _), (22, _), (21, _), (20, _), (19, _), (18, _), (17, _), (16, _), (15, _), (14, _), (13, _), (12, _), (4, _), (0, _), (1, _)]) rfl ?_; intro a hf
    refine rd hf rfl (yl_pickFF rfl rfl rfl) rfl rfl ?_; intro a hf
    refine plan_nil ?_
    replace hf := hf.sel [24, 0, 1] (l' := [(24, _), (0, _), (1, _)]) rfl
    refine wp_ifd hf rfl (fun h40 => ?_) (fun h40 => ?_)
    · -- then
      refine wpIn_seq ?_
      -- region 2 (law.go:172)
      refine wp_reg ([]) ([] ++ rs) [(0, false), (1, true)] mixed (by kernel_rfl) (hT) ?_; intro w hT
      refine ef_call hf rfl (wanted_none _ _ rfl) rfl rfl (by kernel_rfl) (Spec.frame (L2 := []) (fine_spec hT)) rfl (l' := [(24, _), (0, _), (1, _)]) rfl ?_; rintro a w v L ⟨L1, ⟨rfl, rfl⟩, rfl⟩ hf hT
      refine rd hf rfl (yl_assign rfl) rfl rfl ?_; intro a hf
      refine plan_nil ?_
      replace hf := hf.sel [4] (l' := [(4, _)]) rfl
      refine wpIn_ret ?_
      exact body_ret hf (L := []) hT rfl rfl ⟨rfl, rfl⟩
    · -- else
      refine wpIn_skip ?_
      refine wpIn_seq ?_
      -- region 3 (law.go:174)
      refine wp_reg ([]) ([] ++ rs) [(0, true), (1, true), (2, false), (3, true), (4, true), (5, true), (6, true), (7, true), (8, true), (9, true)] mixed (by kernel_rfl) (hT) ?_; intro w hT
      refine rd hf rfl (yl_move rfl) rfl rfl ?_; intro a hf
      refine rd hf rfl (yl_move rfl) rfl rfl ?_; intro a hf
      refine ef_call hf rfl (wanted_none _ _ rfl) rfl rfl (by kernel_rfl) (Spec.frame (L2 := []) (Best_spec xs A0 cp hE.app hcap m hT)) rfl (l' := [(28, _), (27, _), (24, _), (0, _), (1, _)]) rfl ?_; rintro a w v L ⟨L1, ⟨q1, o1, w1, e1, X1, rfl, hX1, rfl, hb1⟩, rfl⟩ hf hT
      refine rd hf rfl (yl_move rfl) rfl rfl ?_; intro a hf
      refine rd hf rfl (yl_extract rfl rfl) rfl rfl ?_; intro a hf
      refine rd hf rfl (yl_extract rfl rfl) rfl rfl ?_; intro a hf
      refine rd hf rfl (yl_extract rfl rfl) rfl rfl ?_; intro a hf
      refine rd hf rfl (yl_assign rfl) rfl rfl ?_; intro a hf
      refine rd hf rfl (yl_assign rfl) rfl rfl ?_; intro a hf
      refine rd hf rfl (yl_assign rfl) rfl rfl ?_; intro a hf
      refine plan_nil ?_
      replace hf := hf.sel [7, 6, 5, 0, 1] (l' := [(7, _), (6, _), (5, _), (0, _), (1, _)]) rfl
      refine wpIn_seq ?_
      -- region 4 (law.go:175)
      refine wp_reg ([]) ([_] ++ rs) [(0, true), (1, true), (2, false), (3, true), (4, true), (5, true), (6, true), (7, true), (8, true), (9, true)] mixed (by kernel_rfl) (hT) ?_; intro w hT
      refine rd hf rfl (yl_move rfl) rfl rfl ?_; intro a hf
      refine rd hf rfl (yl_move rfl) rfl rfl ?_; intro a hf
      refine ef_call hf rfl (wanted_none _ _ rfl) rfl rfl (by kernel_rfl) (Spec.frame (L2 := []) (rBest_spec xs _ hE.app m hT)) rfl (l' := [(35, _), (34, _), (7, _), (6, _), (5, _), (0, _), (1, _)]) rfl ?_; rintro a w v L ⟨L1, ⟨q2, o2, w2, e2, Y2, rfl, hY2, rfl, hb2⟩, rfl⟩ hf hT
      obtain ⟨hd1, hd2, hd3⟩ := hb1.det hb2
      subst hd1 hd2 hd3
      have hlo := hX1.len_le
      refine rd hf rfl (yl_move rfl) rfl rfl ?_; intro a hf
      refine rd hf rfl (yl_extract rfl rfl) rfl rfl ?_; intro a hf
      refine rd hf rfl (yl_extract rfl rfl) rfl rfl ?_; intro a hf
      refine rd hf rfl (yl_extract rfl rfl) rfl rfl ?_; intro a hf
      refine rd hf rfl (yl_assign rfl) rfl rfl ?_; intro a hf
      refine rd hf rfl (yl_assign rfl) rfl rfl ?_; intro a hf
      refine rd hf rfl (yl_assign rfl) rfl rfl ?_; intro a hf
      refine plan_nil ?_
      replace hf := hf.sel [10, 9, 8, 7, 6, 5] (l' := [(10, _), (9, _), (8, _), (7, _), (6, _), (5, _)]) rfl
      refine wpIn_seq ?_
      refine wpIn_seq ?_
      -- region 5 (law.go:176)
      refine wp_reg ([]) ([_, _] ++ rs) [(0, true), (1, true), (2, true), (3, true), (4, true), (5, true), (6, true), (7, true), (8, true), (9, true), (10, true), (11, true), (12, true), (13, true), (14, true)] mixed (by kernel_rfl) (hT) ?_; intro w hT
      refine rd hf rfl (yl_move rfl) rfl rfl ?_; intro a hf
      refine rd hf rfl (yl_move rfl) rfl rfl ?_; intro a hf
      refine rd hf rfl (yl_cmp rfl rfl rfl) rfl rfl ?_; intro a hf
      refine rd hf rfl (yl_move rfl) rfl rfl ?_; intro a hf
      refine rdT hf rfl rfl rfl rfl (by first | exact (decide_eq_false (fun h => h rfl)) | simp [(decide_eq_false (fun h => h rfl))]) (yl_move rfl) rfl (l' := [(44, _), (43, _), (42, _), (41, _), (40, _), (10, _), (9, _), (8, _), (7, _), (6, _), (5, _)]) rfl ?_; intro a hf
      refine rdT hf rfl rfl rfl rfl (by first | exact (decide_eq_false (fun h => h rfl)) | simp [(decide_eq_false (fun h => h rfl))]) (yl_move rfl) rfl (l' := [(45, _), (44, _), (43, _), (42, _), (41, _), (40, _), (10, _), (9, _), (8, _), (7, _), (6, _), (5, _)]) rfl ?_; intro a hf
      refine rdT hf rfl rfl rfl rfl (by first | exact (decide_eq_false (fun h => h rfl)) | simp [(decide_eq_false (fun h => h rfl))]) (yl_cmp rfl rfl rfl) rfl (l' := [(46, _), (45, _), (44, _), (43, _), (42, _), (41, _), (40, _), (10, _), (9, _), (8, _), (7, _), (6, _), (5, _)]) rfl ?_; intro a hf
      refine rd hf rfl (yl_pickFF rfl (decide_eq_false (fun h => h rfl)) rfl) rfl rfl ?_; intro a hf
      refine rd hf rfl (yl_move rfl) rfl rfl ?_; intro a hf
      refine rdT hf rfl rfl rfl rfl (by first | exact (decide_eq_false (fun h => h rfl)) | simp [(decide_eq_false (fun h => h rfl))]) (yl_move rfl) rfl (l' := [(49, _), (48, _), (47, _), (46, _), (45, _), (44, _), (43, _), (42, _), (41, _), (40, _), (10, _), (9, _), (8, _), (7, _), (6, _), (5, _)]) rfl ?_; intro a hf
      refine rdT hf rfl rfl rfl rfl (by first | exact (decide_eq_false (fun h => h rfl)) | simp [(decide_eq_false (fun h => h rfl))]) (yl_lenE rfl Try.underlying82 (hX1.els (.tail _ (.head _)))) rfl (l' := [(50, _), (49, _), (48, _), (47, _), (46, _), (45, _), (44, _), (43, _), (42, _), (41, _), (40, _), (10, _), (9, _), (8, _), (7, _), (6, _), (5, _)]) rfl ?_; intro a hf
      refine rdT hf rfl rfl rfl rfl (by first | exact (decide_eq_false (fun h => h rfl)) | simp [(decide_eq_false (fun h => h rfl))]) (yl_move rfl) rfl (l' := [(51, _), (50, _), (49, _), (48, _), (47, _), (46, _), (45, _), (44, _), (43, _), (42, _), (41, _), (40, _), (10, _), (9, _), (8, _), (7, _), (6, _), (5, _)]) rfl ?_; intro a hf
      refine rdT hf rfl rfl rfl rfl (by first | exact (decide_eq_false (fun h => h rfl)) | simp [(decide_eq_false (fun h => h rfl))]) (yl_lenE rfl Try.underlying82 (hY2.els (.head _))) rfl (l' := [(52, _), (51, _), (50, _), (49, _), (48, _), (47, _), (46, _), (45, _), (44, _), (43, _), (42, _), (41, _), (40, _), (10, _), (9, _), (8, _), (7, _), (6, _), (5, _)]) rfl ?_; intro a hf
      refine rdT hf rfl rfl rfl rfl (by first | exact (decide_eq_false (fun h => h rfl)) | simp [(decide_eq_false (fun h => h rfl))]) (yl_cmp rfl rfl rfl) rfl (l' := [(53, _), (52, _), (51, _), (50, _), (49, _), (48, _), (47, _), (46, _), (45, _), (44, _), (43, _), (42, _), (41, _), (40, _), (10, _), (9, _), (8, _), (7, _), (6, _), (5, _)]) rfl ?_; intro a hf
      refine rd hf rfl (yl_pickFF rfl (decide_eq_false (fun h => h rfl)) rfl) rfl rfl ?_; intro a hf
      refine plan_nil ?_
      replace hf := hf.sel [54, 8, 5] (l' := [(54, _), (8, _), (5, _)]) rfl
      refine wp_ifd hf rfl (fun hl => ?_) (fun hl => ?_)
      · -- then
        exact absurd rfl hl
      · -- else
        refine wpIn_skip ?_
        refine wpIn_seq ?_
        refine wpIn_seq ?_
        -- region 7 (law.go:179)
        refine wp_reg ([]) ([_, _] ++ rs) [(0, true)] mixed (by kernel_rfl) (hT) ?_; intro w hT
        refine rd hf rfl (yl_assign rfl) rfl rfl ?_; intro a hf
        refine plan_nil ?_
        refine wpIn_block ?_
        refine wp_loopS (σ := Nat) (fun k => [(11, .int .i64 (k : Nat))]) [(8, _), (5, _)] (fun k L => L = [] ∧ k ≤ o1.length) (fun k => o1.length - k) 0 (L := []) (R := [_, _] ++ rs) (hf.sel [11, 8, 5] rfl) (⟨rfl, Nat.zero_le _⟩) hT ?_
        clear hf hT; rintro k a w L hf ⟨rfl, hk⟩ hT
        replace hf : Fr _ [(11, .int .i64 (k : Nat)), (8, _), (5, _)] _ _ := hf
        refine wpIn_seq ?_
        refine wpIn_seq ?_
        -- region 8 (law.go:179)
        refine wp_reg ([]) ([_, _] ++ rs) [(0, true), (1, true), (2, true), (3, true)] mixed (by kernel_rfl) (hT) ?_; intro w hT
        refine rd hf rfl (yl_move rfl) rfl rfl ?_; intro a hf
        refine rd hf rfl (yl_move rfl) rfl rfl ?_; intro a hf
        refine rd hf rfl (yl_lenE rfl Try.underlying82 (hX1.els (.tail _ (.head _)))) rfl rfl ?_; intro a hf
        refine rd hf rfl (yl_cmp rfl rfl rfl) rfl rfl ?_; intro a hf
        refine plan_nil ?_
        replace hf := hf.sel [58, 11, 8, 5] (l' := [(58, _), (11, _), (8, _), (5, _)]) rfl
        refine wp_ifd hf rfl (fun hlt => ?_) (fun hlt => ?_)
        · -- then
          have hltk : k < o1.length := by omega
          have hj : o1[k]? = some o1[k] := List.getElem?_eq_getElem hltk
          refine wpIn_skip ?_
          refine wpIn_seq ?_
          refine wpIn_block ?_
          refine wpIn_seq ?_
          -- region 10 (law.go:180)
          refine wp_reg ([]) ([_, _] ++ rs) [(0, true), (1, true), (2, true), (3, true), (4, true), (5, true), (6, true), (7, true), (8, true)] mixed (by kernel_rfl) (hT) ?_; intro w hT
          refine rd hf rfl (yl_move rfl) rfl rfl ?_; intro a hf
          refine rd hf rfl (yl_move rfl) rfl rfl ?_; intro a hf
          refine rd hf rfl (yl_indexE rfl rfl Try.underlying82 sz_3 (hX1.els (.tail _ (.head _))) (by omega) (by omega)) rfl rfl ?_; intro a hf
          refine rd hf rfl (yl_load Try.underlying3 rfl rfl ((hX1.els (.tail _ (.head _))).cell hj (f := 0) rfl)) rfl rfl ?_; intro a hf
          refine rd hf rfl (yl_move rfl) rfl rfl ?_; intro a hf
          refine rd hf rfl (yl_move rfl) rfl rfl ?_; intro a hf
          refine rd hf rfl (yl_indexE rfl rfl Try.underlying82 sz_3 (hY2.els (.head _)) (by omega) (by omega)) rfl rfl ?_; intro a hf
          refine rd hf rfl (yl_load Try.underlying3 rfl rfl ((hY2.els (.head _)).cell hj (f := 0) rfl)) rfl rfl ?_; intro a hf
          refine rd hf rfl (yl_cmp rfl rfl rfl) rfl rfl ?_; intro a hf
          refine plan_nil ?_
          replace hf := hf.sel [69, 11, 8, 5] (l' := [(69, _), (11, _), (8, _), (5, _)]) rfl
          refine wp_ifd hf rfl (fun hne => ?_) (fun hne => ?_)
          · -- then
            exact absurd rfl hne
          · -- else
            refine wpIn_skip ?_
            -- region 9 (law.go:179)
            refine wp_reg ([]) ([_, _] ++ rs) [(0, true), (1, true), (2, true)] mixed (by kernel_rfl) (hT) ?_; intro w hT
            refine rd hf rfl (yl_move rfl) rfl rfl ?_; intro a hf
            refine rd hf rfl (yl_add rfl rfl (by unfold inI64; omega)) rfl rfl ?_; intro a hf
            refine rw_ hf rfl (yl_assign rfl) rfl (l' := [(11, _), (60, _), (59, _), (69, _), (8, _), (5, _)]) rfl ?_; intro a hf
            refine plan_nil ?_
            replace hf := hf.sel [11, 8, 5] (l' := [(11, _), (8, _), (5, _)]) rfl
            exact ⟨k + 1, _, hf.sel [11, 8, 5] rfl, ⟨rfl, by omega⟩, hT, by first | omega | (dsimp only; omega)⟩
        · -- else
          refine wpIn_exit ?_
          refine then_exit ?_
          refine then_exit ?_
          refine inBlock_hit ?_
          refine wpIn_seq ?_
          -- region 12 (law.go:184)
          refine wp_reg ([]) ([_, _] ++ rs) [(0, false), (1, true)] mixed (by kernel_rfl) (hT) ?_; intro w hT
          refine ef_call hf rfl (wanted_none _ _ rfl) rfl rfl (by kernel_rfl) (Spec.frame (L2 := []) (fine_spec hT)) rfl (l' := [(58, _), (11, _), (8, _), (5, _)]) rfl ?_; rintro a w v L ⟨L1, ⟨rfl, rfl⟩, rfl⟩ hf hT
          refine rd hf rfl (yl_assign rfl) rfl rfl ?_; intro a hf
          refine plan_nil ?_
          replace hf := hf.sel [4] (l' := [(4, _)]) rfl
          refine wpIn_ret ?_
          exact body_ret hf (L := []) hT.tail.tail rfl rfl ⟨rfl, rfl⟩
end Go.Proofs.Ytjhbgciocffihaa
