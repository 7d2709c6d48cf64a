-- written by gen.py out of walks texts of my own
import Derived.Test.YtjhbgciocffihaaB22
set_option linter.unusedVariables false
set_option linter.unusedSimpArgs false
set_option maxHeartbeats 4000000
namespace Go.Proofs.Ytjhbgciocffihaa
structure Sp where
  lo : Int
  hi : Int
deriving DecidableEq
def Sp.cells (a : Sp) : List Value := [.int .i64 a.lo, .int .i64 a.hi]
def encSp : Enc Sp := ⟨Sp.cells, 2, fun _ => rfl, fun a u h => by simp [Sp.cells] at h; rcases h with rfl | rfl <;> rfl, by decide⟩
def encS (a : Sp) : Value := .agg #[.int .i64 a.lo, .int .i64 a.hi]
def Sp.Ok (a : Sp) : Prop := a.lo ≤ a.hi ∧ -1073741824 ≤ a.lo ∧ a.hi ≤ 1073741824
instance (a : Sp) : Decidable a.Ok := by unfold Sp.Ok; infer_instance
/-- The first k spans are valid, and each begins far enough behind the one before. -/
def SetTo (S : List Sp) (k : Nat) : Prop := ∀ i (h : i < S.length), i < k → S[i].Ok ∧ ∀ (h0 : 0 < i), (S[i - 1]'(by omega)).hi + 2 ≤ S[i].lo
def SetOk (S : List Sp) : Prop := SetTo S S.length
noncomputable def setE (S : List Sp) : Int := open Classical in if 256 < S.length then 6 else if SetOk S then 0 else 2
def inS (S : List Sp) (x : Int) : Bool := S.any fun a => decide (a.lo ≤ x ∧ x ≤ a.hi)
theorem setE_many {S : List Sp} (h : 256 < S.length) : setE S = 6 := by unfold setE; rw [if_pos h]
theorem setE_ok {S : List Sp} (h : ¬ 256 < S.length) (h1 : SetOk S) : setE S = 0 := by unfold setE; rw [if_neg h, if_pos h1]
theorem setE_bad {S : List Sp} (h : ¬ 256 < S.length) (h1 : ¬ SetOk S) : setE S = 2 := by unfold setE; rw [if_neg h, if_neg h1]
theorem SetTo.step {S : List Sp} {k : Nat} (h : SetTo S k) (hk : k < S.length) (h1 : S[k].Ok) (h2 : ∀ (h0 : 0 < k), (S[k - 1]'(by omega)).hi + 2 ≤ S[k].lo) : SetTo S (k + 1) := fun i hi hik => by
  by_cases he : i = k
  · subst he; exact ⟨h1, h2⟩
  · exact h i hi (by omega)
theorem SetOk.not {S : List Sp} {k : Nat} (hk : k < S.length) (h : ¬ (S[k].Ok ∧ ∀ (h0 : 0 < k), (S[k - 1]'(by omega)).hi + 2 ≤ S[k].lo)) : ¬ SetOk S := fun hs => h (hs k hk hk)
def chkE (xs : List Sp) : Int := if ∀ a ∈ xs, a.Ok then 0 else 2
theorem chkE_one (a : Sp) : chkE [a] = if a.Ok then 0 else 2 := by unfold chkE; simp
theorem inS_at {S : List Sp} {x : Int} {k : Nat} (hk : k < S.length) (h : S[k].lo ≤ x ∧ x ≤ S[k].hi) : inS S x = true := List.any_eq_true.2 ⟨_, List.getElem_mem hk, by simpa using h⟩
theorem inS_none {S : List Sp} {x : Int} (h : ∀ j (hj : j < S.length), ¬ (S[j].lo ≤ x ∧ x ≤ S[j].hi)) : inS S x = false := by
  unfold inS
  rw [List.any_eq_false]
  intro a ha
  obtain ⟨j, hj, rfl⟩ := List.getElem_of_mem ha
  simpa using h j hj
theorem check_spec {e : Env} {w : World} {rs : List Part} (xs : List Sp) (v0 : Value) (hE : Els encSp rs v0 xs) (hT : Tot e w rs) : Spec Try.prog 84 #[v0] e w rs (fun v L => v = .int .i64 (chkE xs) ∧ L = []) := by
  refine spec_body Try.func84 rfl Try.ntmps84 rfl rfl ?_
  intro a hf
  refine wpIn_seq ?_
  -- region 0 (bound.go:48)
  refine wp_reg ([]) ([] ++ rs) [(0, true)] mixed (by kernel_rfl) (hT) ?_; intro w hT
  refine rd hf rfl (yl_assign rfl) rfl rfl ?_; intro a hf
  refine plan_nil ?_
  refine wpIn_seq ?_
  refine wpIn_seq ?_
  -- region 1 (bound.go:49)
  refine wp_reg ([]) ([] ++ rs) [(0, true), (1, true), (2, true)] mixed (by kernel_rfl) (hT) ?_; intro w hT
  refine rd hf rfl (yl_move rfl) rfl rfl ?_; intro a hf
  refine rd hf rfl (yl_lenE rfl Try.underlying58 hE.app) rfl rfl ?_; intro a hf
  refine rd hf rfl (yl_move rfl) rfl rfl ?_; intro a hf
  refine plan_nil ?_
  refine wpIn_block ?_
  have hlen := hE.len_le
  refine wp_loopS (σ := Nat) (fun k => [(7, .int .i64 (k : Nat))]) [(6, _), (5, _)] (fun k L => L = [] ∧ k ≤ xs.length ∧ ∀ j (h : j < xs.length), j < k → xs[j].Ok) (fun k => xs.length - k) 0 (L := []) (R := [] ++ rs) (hf.sel [7, 6, 5] rfl) (⟨rfl, Nat.zero_le _, fun j h hj => absurd hj (Nat.not_lt_zero _)⟩) hT ?_
  clear hf hT; rintro k a w L hf ⟨rfl, hk, ho⟩ hT
  replace hf : Fr _ [(7, .int .i64 (k : Nat)), (6, _), (5, _)] _ _ := hf
  refine wpIn_seq ?_
  -- region 2 (bound.go:49)
  refine wp_reg ([]) ([] ++ rs) [(0, true)] mixed (by kernel_rfl) (hT) ?_; intro w hT
  refine rd hf rfl (yl_cmp rfl rfl rfl) rfl rfl ?_; intro a hf
  refine plan_nil ?_
  refine wpIn_seq ?_
  refine wp_ifd hf rfl (fun hlt => ?_) (fun hlt => ?_)
  · -- then
    have hltk : k < xs.length := by omega
    have hj : xs[k]? = some xs[k] := List.getElem?_eq_getElem hltk
    refine wpIn_skip ?_
    refine wpIn_seq ?_
    refine wpIn_block ?_
    refine wpIn_seq ?_
    -- region 3 (bound.go:49)
    refine wp_reg ([]) ([] ++ rs) [(0, true), (1, true), (2, false), (3, false)] mixed (by kernel_rfl) (hT) ?_; intro w hT
    refine rd hf rfl (yl_indexE rfl rfl Try.underlying58 sz_65 hE.app (by omega) (by omega)) rfl rfl ?_; intro a hf
    refine rd hf rfl (yl_loadA Try.underlying65 rfl sz_65 rfl (hE.app.row hj) rfl) rfl rfl ?_; intro a hf
    refine ef hf hT rfl rfl (ef_alloc zr_65) rfl (l' := [(10, _), (9, _), (8, _), (7, _), (6, _), (5, _)]) rfl ?_; rintro a w v L ⟨b1, rfl, rfl⟩ hf hT
    refine efS hf hT rfl rfl (ef_storeW rfl rfl sz_65 rfl rfl rfl) ?_; rintro w L rfl hT
    refine plan_nil ?_
    replace hf := hf.sel [4, 7, 6, 5] (l' := [(4, _), (7, _), (6, _), (5, _)]) rfl
    refine wpIn_seq ?_
    -- region 4 (bound.go:50)
    refine wp_reg ([]) ([_] ++ rs) [(0, true), (1, true), (2, true), (3, true), (4, true), (5, true), (6, true), (7, true), (8, true), (9, true), (10, true), (11, true), (12, true), (13, true), (14, true)] mixed (by kernel_rfl) (hT) ?_; intro w hT
    refine rd hf rfl (yl_faddr Try.underlying65 rfl rfl sz_2 (k := 0) rfl) rfl rfl ?_; intro a hf
    refine rd hf rfl (yl_load Try.underlying2 rfl rfl ⟨_, .head _, _, _, _, pt_self _ _, rfl⟩) rfl rfl ?_; intro a hf
    refine rd hf rfl (yl_faddr Try.underlying65 rfl rfl sz_2 (k := 1) rfl) rfl rfl ?_; intro a hf
    refine rd hf rfl (yl_load Try.underlying2 rfl rfl ⟨_, .head _, _, _, _, pt_self _ _, rfl⟩) rfl rfl ?_; intro a hf
    refine rd hf rfl (yl_cmp rfl rfl rfl) rfl rfl ?_; intro a hf
    refine rd hf rfl (yl_move rfl) rfl rfl ?_; intro a hf
    by_cases hg5 : xs[k].hi < xs[k].lo
    · have hgT1 : decide (xs[k].hi < xs[k].lo) = true := by simpa using hg5
      refine rdF hf rfl rfl rfl rfl (by first | exact hgT1 | simp [hgT1]) rfl (l' := [(17, _), (16, _), (15, _), (14, _), (13, _), (12, _), (11, _), (4, _), (7, _), (6, _), (5, _)]) rfl ?_; intro a hf
      refine rdF hf rfl rfl rfl rfl (by first | exact hgT1 | simp [hgT1]) rfl (l' := [(18, _), (17, _), (16, _), (15, _), (14, _), (13, _), (12, _), (11, _), (4, _), (7, _), (6, _), (5, _)]) rfl ?_; intro a hf
      refine rdF hf rfl rfl rfl rfl (by first | exact hgT1 | simp [hgT1]) rfl (l' := [(19, _), (18, _), (17, _), (16, _), (15, _), (14, _), (13, _), (12, _), (11, _), (4, _), (7, _), (6, _), (5, _)]) rfl ?_; intro a hf
      refine rd hf rfl (yl_pickTT rfl hgT1 rfl) rfl rfl ?_; intro a hf
      refine rd hf rfl (yl_move rfl) rfl rfl ?_; intro a hf
      refine rdF hf rfl rfl rfl rfl (rfl) rfl (l' := [(22, _), (21, _), (20, _), (19, _), (18, _), (17, _), (16, _), (15, _), (14, _), (13, _), (12, _), (11, _), (4, _), (7, _), (6, _), (5, _)]) rfl ?_; intro a hf
      refine rdF hf rfl rfl rfl rfl (rfl) rfl (l' := [(23, _), (22, _), (21, _), (20, _), (19, _), (18, _), (17, _), (16, _), (15, _), (14, _), (13, _), (12, _), (11, _), (4, _), (7, _), (6, _), (5, _)]) rfl ?_; intro a hf
      refine rdF hf rfl rfl rfl rfl (rfl) rfl (l' := [(24, _), (23, _), (22, _), (21, _), (20, _), (19, _), (18, _), (17, _), (16, _), (15, _), (14, _), (13, _), (12, _), (11, _), (4, _), (7, _), (6, _), (5, _)]) rfl ?_; intro a hf
      refine rd hf rfl (yl_pickTT rfl rfl rfl) rfl rfl ?_; intro a hf
      refine plan_nil ?_
      replace hf := hf.sel [25, 7, 6, 5] (l' := [(25, _), (7, _), (6, _), (5, _)]) rfl
      refine wp_ifTT hf rfl (rfl) ?_
      refine wpIn_seq ?_
      -- region 5 (bound.go:51)
      refine wp_reg ([]) ([_] ++ rs) [(0, true)] mixed (by kernel_rfl) (hT) ?_; intro w hT
      refine rd hf rfl (yl_assign rfl) rfl rfl ?_; intro a hf
      refine plan_nil ?_
      replace hf := hf.sel [2] (l' := [(2, _)]) rfl
      refine wpIn_ret ?_
      have hbad : ¬ ∀ a ∈ xs, a.Ok := fun h => by have h1 := h _ (List.getElem_mem hltk); unfold Sp.Ok at h1; omega
      exact body_ret hf (L := []) hT.tail rfl rfl ⟨by unfold chkE; rw [if_neg hbad]; rfl, rfl⟩
    · have hgT1 : decide (xs[k].hi < xs[k].lo) = false := by simpa using hg5
      refine rdT hf rfl rfl rfl rfl (by first | exact hgT1 | simp [hgT1]) (yl_faddr Try.underlying65 rfl rfl sz_2 (k := 0) rfl) rfl (l' := [(17, _), (16, _), (15, _), (14, _), (13, _), (12, _), (11, _), (4, _), (7, _), (6, _), (5, _)]) rfl ?_; intro a hf
      refine rdT hf rfl rfl rfl rfl (by first | exact hgT1 | simp [hgT1]) (yl_load Try.underlying2 rfl rfl ⟨_, .head _, _, _, _, pt_self _ _, rfl⟩) rfl (l' := [(18, _), (17, _), (16, _), (15, _), (14, _), (13, _), (12, _), (11, _), (4, _), (7, _), (6, _), (5, _)]) rfl ?_; intro a hf
      refine rdT hf rfl rfl rfl rfl (by first | exact hgT1 | simp [hgT1]) (yl_cmp rfl rfl rfl) rfl (l' := [(19, _), (18, _), (17, _), (16, _), (15, _), (14, _), (13, _), (12, _), (11, _), (4, _), (7, _), (6, _), (5, _)]) rfl ?_; intro a hf
      refine rd hf rfl (yl_pickFF rfl hgT1 rfl) rfl rfl ?_; intro a hf
      refine rd hf rfl (yl_move rfl) rfl rfl ?_; intro a hf
      by_cases hg10 : xs[k].lo < -1073741824
      · have hgT2 : decide (xs[k].lo < -1073741824) = true := by simpa using hg10
        refine rdF hf rfl rfl rfl rfl (by first | exact hgT2 | simp [hgT2]) rfl (l' := [(22, _), (21, _), (20, _), (19, _), (18, _), (17, _), (16, _), (15, _), (14, _), (13, _), (12, _), (11, _), (4, _), (7, _), (6, _), (5, _)]) rfl ?_; intro a hf
        refine rdF hf rfl rfl rfl rfl (by first | exact hgT2 | simp [hgT2]) rfl (l' := [(23, _), (22, _), (21, _), (20, _), (19, _), (18, _), (17, _), (16, _), (15, _), (14, _), (13, _), (12, _), (11, _), (4, _), (7, _), (6, _), (5, _)]) rfl ?_; intro a hf
        refine rdF hf rfl rfl rfl rfl (by first | exact hgT2 | simp [hgT2]) rfl (l' := [(24, _), (23, _), (22, _), (21, _), (20, _), (19, _), (18, _), (17, _), (16, _), (15, _), (14, _), (13, _), (12, _), (11, _), (4, _), (7, _), (6, _), (5, _)]) rfl ?_; intro a hf
        refine rd hf rfl (yl_pickTT rfl hgT2 rfl) rfl rfl ?_; intro a hf
        refine plan_nil ?_
        replace hf := hf.sel [25, 7, 6, 5] (l' := [(25, _), (7, _), (6, _), (5, _)]) rfl
        refine wp_ifTT hf rfl (rfl) ?_
        refine wpIn_seq ?_
        -- region 5 (bound.go:51)
        refine wp_reg ([]) ([_] ++ rs) [(0, true)] mixed (by kernel_rfl) (hT) ?_; intro w hT
        refine rd hf rfl (yl_assign rfl) rfl rfl ?_; intro a hf
        refine plan_nil ?_
        replace hf := hf.sel [2] (l' := [(2, _)]) rfl
        refine wpIn_ret ?_
        have hbad : ¬ ∀ a ∈ xs, a.Ok := fun h => by have h1 := h _ (List.getElem_mem hltk); unfold Sp.Ok at h1; omega
        exact body_ret hf (L := []) hT.tail rfl rfl ⟨by unfold chkE; rw [if_neg hbad]; rfl, rfl⟩
      · have hgT2 : decide (xs[k].lo < -1073741824) = false := by simpa using hg10
        refine rdT hf rfl rfl rfl rfl (by first | exact hgT2 | simp [hgT2]) (yl_faddr Try.underlying65 rfl rfl sz_2 (k := 1) rfl) rfl (l' := [(22, _), (21, _), (20, _), (19, _), (18, _), (17, _), (16, _), (15, _), (14, _), (13, _), (12, _), (11, _), (4, _), (7, _), (6, _), (5, _)]) rfl ?_; intro a hf
        refine rdT hf rfl rfl rfl rfl (by first | exact hgT2 | simp [hgT2]) (yl_load Try.underlying2 rfl rfl ⟨_, .head _, _, _, _, pt_self _ _, rfl⟩) rfl (l' := [(23, _), (22, _), (21, _), (20, _), (19, _), (18, _), (17, _), (16, _), (15, _), (14, _), (13, _), (12, _), (11, _), (4, _), (7, _), (6, _), (5, _)]) rfl ?_; intro a hf
        refine rdT hf rfl rfl rfl rfl (by first | exact hgT2 | simp [hgT2]) (yl_cmp rfl rfl rfl) rfl (l' := [(24, _), (23, _), (22, _), (21, _), (20, _), (19, _), (18, _), (17, _), (16, _), (15, _), (14, _), (13, _), (12, _), (11, _), (4, _), (7, _), (6, _), (5, _)]) rfl ?_; intro a hf
        refine rd hf rfl (yl_pickFF rfl hgT2 rfl) rfl rfl ?_; intro a hf
        refine plan_nil ?_
        replace hf := hf.sel [25, 7, 6, 5] (l' := [(25, _), (7, _), (6, _), (5, _)]) rfl
        refine wp_ifd hf rfl (fun hlast => ?_) (fun hlast => ?_)
        · -- then
          refine wpIn_seq ?_
          -- region 5 (bound.go:51)
          refine wp_reg ([]) ([_] ++ rs) [(0, true)] mixed (by kernel_rfl) (hT) ?_; intro w hT
          refine rd hf rfl (yl_assign rfl) rfl rfl ?_; intro a hf
          refine plan_nil ?_
          replace hf := hf.sel [2] (l' := [(2, _)]) rfl
          refine wpIn_ret ?_
          have hbad : ¬ ∀ a ∈ xs, a.Ok := fun h => by have h1 := h _ (List.getElem_mem hltk); unfold Sp.Ok at h1; omega
          exact body_ret hf (L := []) hT.tail rfl rfl ⟨by unfold chkE; rw [if_neg hbad]; rfl, rfl⟩
        · -- else
          refine wpIn_skip ?_
          -- region 6 (bound.go:49)
          refine wp_reg ([]) ([_] ++ rs) [(0, true), (1, true)] mixed (by kernel_rfl) (hT) ?_; intro w hT
          refine rd hf rfl (yl_add rfl rfl (by unfold inI64; omega)) rfl rfl ?_; intro a hf
          refine rw_ hf rfl (yl_move rfl) rfl (l' := [(7, _), (26, _), (25, _), (6, _), (5, _)]) rfl ?_; intro a hf
          refine plan_nil ?_
          exact ⟨k + 1, _, hf.sel [7, 6, 5] rfl, ⟨rfl, by omega, fun j h hj => by by_cases hjk : j = k; subst hjk; exact ⟨by omega, by omega, by omega⟩; exact ho j h (by omega)⟩, (hT.brings [0]).tail, by first | omega | (dsimp only; omega)⟩
  · -- else
    obtain rfl : k = xs.length := by omega
    have hall : ∀ a ∈ xs, a.Ok := fun a ha => by obtain ⟨j, hj, rfl⟩ := List.getElem_of_mem ha; exact ho j hj hj
    refine wpIn_exit ?_
    refine then_exit ?_
    refine then_exit ?_
    refine inBlock_hit ?_
    refine wpIn_seq ?_
    -- region 7 (bound.go:54)
    refine wp_reg ([]) ([] ++ rs) [(0, true)] mixed (by kernel_rfl) (hT) ?_; intro w hT
    refine rd hf rfl (yl_assign rfl) rfl rfl ?_; intro a hf
    refine plan_nil ?_
    replace hf := hf.sel [2] (l' := [(2, _)]) rfl
    refine wpIn_ret ?_
    exact body_ret hf (L := []) hT rfl rfl ⟨by unfold chkE; rw [if_pos hall]; rfl, rfl⟩
theorem CheckSet_spec {e : Env} {w : World} {rs : List Part} (S : List Sp) (v0 : Value) (hE : Els encSp rs v0 S) (hT : Tot e w rs) : Spec Try.prog 42 #[v0] e w rs (fun v L => v = .int .i64 (setE S) ∧ L = []) := by
  refine spec_body Try.func42 rfl Try.ntmps42 rfl rfl ?_
  intro a hf
  refine wpIn_seq ?_
  -- region 0 (bound.go:248)
  refine wp_reg ([]) ([] ++ rs) [(0, true)] mixed (by kernel_rfl) (hT) ?_; intro w hT
  refine rd hf rfl (yl_assign rfl) rfl rfl ?_; intro a hf
  refine plan_nil ?_
  refine wpIn_seq ?_
  refine wpIn_seq ?_
  -- region 1 (bound.go:249)
  refine wp_reg ([]) ([] ++ rs) [(0, true), (1, true), (2, true)] mixed (by kernel_rfl) (hT) ?_; intro w hT
  refine rd hf rfl (yl_move rfl) rfl rfl ?_; intro a hf
  refine rd hf rfl (yl_lenE rfl Try.underlying58 hE.app) rfl rfl ?_; intro a hf
  refine rd hf rfl (yl_cmp rfl rfl rfl) rfl rfl ?_; intro a hf
  refine plan_nil ?_
  replace hf := hf.sel [7, 0] (l' := [(7, _), (0, _)]) rfl
  refine wp_ifd hf rfl (fun hmany => ?_) (fun hmany => ?_)
  · -- then
    have hm : 256 < S.length := by omega
    refine wpIn_seq ?_
    -- region 2 (bound.go:250)
    refine wp_reg ([]) ([] ++ rs) [(0, true)] mixed (by kernel_rfl) (hT) ?_; intro w hT
    refine rd hf rfl (yl_assign rfl) rfl rfl ?_; intro a hf
    refine plan_nil ?_
    refine wpIn_ret ?_
    exact body_ret hf (L := []) hT rfl rfl ⟨by rw [setE_many hm]; rfl, rfl⟩
  · -- else
    have hm : ¬ 256 < S.length := by omega
    refine wpIn_skip ?_
    refine wpIn_seq ?_
    refine wpIn_seq ?_
    -- region 3 (bound.go:252)
    refine wp_reg ([]) ([] ++ rs) [(0, true), (1, true), (2, true)] mixed (by kernel_rfl) (hT) ?_; intro w hT
    refine rd hf rfl (yl_move rfl) rfl rfl ?_; intro a hf
    refine rd hf rfl (yl_lenE rfl Try.underlying58 hE.app) rfl rfl ?_; intro a hf
    refine rd hf rfl (yl_move rfl) rfl rfl ?_; intro a hf
    refine plan_nil ?_
    refine wpIn_block ?_
    have hlen := hE.len_le
    refine wp_loopS (σ := Nat) (fun k => [(10, .int .i64 (k : Nat))]) [(9, _), (8, _), (0, _)] (fun k L => L = [] ∧ k ≤ S.length ∧ SetTo S k) (fun k => S.length - k) 0 (L := []) (R := [] ++ rs) (hf.sel [10, 9, 8, 0] rfl) (⟨rfl, Nat.zero_le _, fun j h hj => absurd hj (Nat.not_lt_zero _)⟩) hT ?_
    clear hf hT; rintro k a w L hf ⟨rfl, hk, ho⟩ hT
    replace hf : Fr _ [(10, .int .i64 (k : Nat)), (9, _), (8, _), (0, _)] _ _ := hf
    refine wpIn_seq ?_
    -- region 4 (bound.go:252)
    refine wp_reg ([]) ([] ++ rs) [(0, true)] mixed (by kernel_rfl) (hT) ?_; intro w hT
    refine rd hf rfl (yl_cmp rfl rfl rfl) rfl rfl ?_; intro a hf
    refine plan_nil ?_
    refine wpIn_seq ?_
    refine wp_ifd hf rfl (fun hlt => ?_) (fun hlt => ?_)
    · -- then
      have hltk : k < S.length := by omega
      have hj : S[k]? = some S[k] := List.getElem?_eq_getElem hltk
      refine wpIn_skip ?_
      refine wpIn_seq ?_
      refine wpIn_block ?_
      refine wpIn_seq ?_
      -- region 5 (bound.go:252)
      refine wp_reg ([]) ([] ++ rs) [(0, true), (1, true), (2, true), (3, false), (4, true), (5, false)] mixed (by kernel_rfl) (hT) ?_; intro w hT
      refine rd hf rfl (yl_move rfl) rfl rfl ?_; intro a hf
      refine rd hf rfl (yl_indexE rfl rfl Try.underlying58 sz_65 hE.app (by omega) (by omega)) rfl rfl ?_; intro a hf
      refine rd hf rfl (yl_loadA Try.underlying65 rfl sz_65 rfl (hE.app.row hj) rfl) rfl rfl ?_; intro a hf
      refine ef hf hT rfl rfl (ef_alloc zr_65) rfl (l' := [(14, _), (13, _), (12, _), (11, _), (10, _), (9, _), (8, _), (0, _)]) rfl ?_; rintro a w v L ⟨b1, rfl, rfl⟩ hf hT
      refine rd hf rfl (yl_assign rfl) rfl rfl ?_; intro a hf
      refine efS hf hT rfl rfl (ef_storeW rfl rfl sz_65 rfl rfl rfl) ?_; rintro w L rfl hT
      refine plan_nil ?_
      replace hf := hf.sel [3, 4, 10, 9, 8, 0] (l' := [(3, _), (4, _), (10, _), (9, _), (8, _), (0, _)]) rfl
      refine wpIn_seq ?_
      -- region 6 (bound.go:253)
      refine wp_reg ([]) ([_] ++ rs) [(0, true), (1, false), (2, false), (3, true), (4, true), (5, true), (6, true), (7, true), (8, true), (9, true), (10, true), (11, true), (12, true), (13, true), (14, true), (15, true), (16, true), (17, true), (18, true), (19, true)] mixed (by kernel_rfl) (hT) ?_; intro w hT
      refine rd hf rfl (yl_loadB Try.underlying65 rfl sz_65 (vs := S[k].cells) (.head _) rfl (pt_self _ _) rfl rfl) rfl rfl ?_; intro a hf
      refine ef hf hT rfl rfl (ef_buildSlice (E := encSp) (xs := [S[k]]) rfl rfl Try.underlying58 zs_65 rfl (by decide) rfl (by decide)) rfl (l' := [(15, _), (3, _), (4, _), (10, _), (9, _), (8, _), (0, _)]) rfl ?_; rintro a w one L ⟨b2, p1, hvp1, hp1, rfl⟩ hf hT
      refine ef_call hf rfl (wanted_none _ _ rfl) rfl rfl (by kernel_rfl) (Spec.frame (L2 := [_]) (check_spec [S[k]] one (hp1.els (.head _)) hT)) rfl (l' := [(16, _), (15, _), (3, _), (4, _), (10, _), (9, _), (8, _), (0, _)]) rfl ?_; rintro a w v L ⟨L1, ⟨rfl, rfl⟩, rfl⟩ hf hT
      refine rd hf rfl (yl_cmp rfl rfl rfl) rfl rfl ?_; intro a hf
      refine rd hf rfl (yl_move rfl) rfl rfl ?_; intro a hf
      by_cases hg4 : chkE [S[k]] ≠ 0
      · have hgT1 : decide (chkE [S[k]] ≠ 0) = true := by simpa using hg4
        have hnk : ¬ S[k].Ok := fun h => hg4 (by rw [chkE_one, if_pos h])
        have hbad := SetOk.not hltk (fun h => hnk h.1)
        refine rdF hf rfl rfl rfl rfl (by first | exact hgT1 | simp [hgT1]) rfl (l' := [(20, _), (19, _), (18, _), (17, _), (16, _), (15, _), (3, _), (4, _), (10, _), (9, _), (8, _), (0, _)]) rfl ?_; intro a hf
        refine rdF hf rfl rfl rfl rfl (by first | exact hgT1 | simp [hgT1]) rfl (l' := [(21, _), (20, _), (19, _), (18, _), (17, _), (16, _), (15, _), (3, _), (4, _), (10, _), (9, _), (8, _), (0, _)]) rfl ?_; intro a hf
        refine rdF hf rfl rfl rfl rfl (by first | exact hgT1 | simp [hgT1]) rfl (l' := [(22, _), (21, _), (20, _), (19, _), (18, _), (17, _), (16, _), (15, _), (3, _), (4, _), (10, _), (9, _), (8, _), (0, _)]) rfl ?_; intro a hf
        refine rdU hf rfl rfl rfl rfl rfl (l' := [(23, _), (22, _), (21, _), (20, _), (19, _), (18, _), (17, _), (16, _), (15, _), (3, _), (4, _), (10, _), (9, _), (8, _), (0, _)]) rfl ?_; intro a hf
        refine rdU hf rfl rfl rfl rfl rfl (l' := [(24, _), (23, _), (22, _), (21, _), (20, _), (19, _), (18, _), (17, _), (16, _), (15, _), (3, _), (4, _), (10, _), (9, _), (8, _), (0, _)]) rfl ?_; intro a hf
        refine rdU hf rfl rfl rfl rfl rfl (l' := [(25, _), (24, _), (23, _), (22, _), (21, _), (20, _), (19, _), (18, _), (17, _), (16, _), (15, _), (3, _), (4, _), (10, _), (9, _), (8, _), (0, _)]) rfl ?_; intro a hf
        refine rdU hf rfl rfl rfl rfl rfl (l' := [(26, _), (25, _), (24, _), (23, _), (22, _), (21, _), (20, _), (19, _), (18, _), (17, _), (16, _), (15, _), (3, _), (4, _), (10, _), (9, _), (8, _), (0, _)]) rfl ?_; intro a hf
        refine rdU hf rfl rfl rfl rfl rfl (l' := [(27, _), (26, _), (25, _), (24, _), (23, _), (22, _), (21, _), (20, _), (19, _), (18, _), (17, _), (16, _), (15, _), (3, _), (4, _), (10, _), (9, _), (8, _), (0, _)]) rfl ?_; intro a hf
        refine rdU hf rfl rfl rfl rfl rfl (l' := [(28, _), (27, _), (26, _), (25, _), (24, _), (23, _), (22, _), (21, _), (20, _), (19, _), (18, _), (17, _), (16, _), (15, _), (3, _), (4, _), (10, _), (9, _), (8, _), (0, _)]) rfl ?_; intro a hf
        refine rdU hf rfl rfl rfl rfl rfl (l' := [(29, _), (28, _), (27, _), (26, _), (25, _), (24, _), (23, _), (22, _), (21, _), (20, _), (19, _), (18, _), (17, _), (16, _), (15, _), (3, _), (4, _), (10, _), (9, _), (8, _), (0, _)]) rfl ?_; intro a hf
        refine rdU hf rfl rfl rfl rfl rfl (l' := [(30, _), (29, _), (28, _), (27, _), (26, _), (25, _), (24, _), (23, _), (22, _), (21, _), (20, _), (19, _), (18, _), (17, _), (16, _), (15, _), (3, _), (4, _), (10, _), (9, _), (8, _), (0, _)]) rfl ?_; intro a hf
        refine rdU hf rfl rfl rfl rfl rfl (l' := [(31, _), (30, _), (29, _), (28, _), (27, _), (26, _), (25, _), (24, _), (23, _), (22, _), (21, _), (20, _), (19, _), (18, _), (17, _), (16, _), (15, _), (3, _), (4, _), (10, _), (9, _), (8, _), (0, _)]) rfl ?_; intro a hf
        refine rdU hf rfl rfl rfl rfl rfl (l' := [(32, _), (31, _), (30, _), (29, _), (28, _), (27, _), (26, _), (25, _), (24, _), (23, _), (22, _), (21, _), (20, _), (19, _), (18, _), (17, _), (16, _), (15, _), (3, _), (4, _), (10, _), (9, _), (8, _), (0, _)]) rfl ?_; intro a hf
        refine rdF hf rfl rfl rfl rfl (by first | exact hgT1 | simp [hgT1]) rfl (l' := [(33, _), (32, _), (31, _), (30, _), (29, _), (28, _), (27, _), (26, _), (25, _), (24, _), (23, _), (22, _), (21, _), (20, _), (19, _), (18, _), (17, _), (16, _), (15, _), (3, _), (4, _), (10, _), (9, _), (8, _), (0, _)]) rfl ?_; intro a hf
        refine rd hf rfl (yl_pickTT rfl hgT1 rfl) rfl rfl ?_; intro a hf
        refine plan_nil ?_
        replace hf := hf.sel [34, 10, 9, 8, 0] (l' := [(34, _), (10, _), (9, _), (8, _), (0, _)]) rfl
        refine wp_ifTT hf rfl (rfl) ?_
        refine wpIn_seq ?_
        -- region 7 (bound.go:254)
        refine wp_reg ([]) ([_, _] ++ rs) [(0, true)] mixed (by kernel_rfl) (hT) ?_; intro w hT
        refine rd hf rfl (yl_assign rfl) rfl rfl ?_; intro a hf
        refine plan_nil ?_
        replace hf := hf.sel [2] (l' := [(2, _)]) rfl
        refine wpIn_ret ?_
        exact body_ret hf (L := []) hT.tail.tail rfl rfl ⟨by rw [setE_bad hm hbad]; rfl, rfl⟩
      · have hgT1 : decide (chkE [S[k]] ≠ 0) = false := by simpa using hg4
        have hok : S[k].Ok := by by_cases h : S[k].Ok; exact h; exact absurd (show chkE [S[k]] ≠ 0 by rw [chkE_one, if_neg h]; decide) hg4
        have hok2 := hok
        unfold Sp.Ok at hok2
        refine rdT hf rfl rfl rfl rfl (by first | exact hgT1 | simp [hgT1]) (yl_move rfl) rfl (l' := [(20, _), (19, _), (18, _), (17, _), (16, _), (15, _), (3, _), (4, _), (10, _), (9, _), (8, _), (0, _)]) rfl ?_; intro a hf
        refine rdT hf rfl rfl rfl rfl (by first | exact hgT1 | simp [hgT1]) (yl_cmp rfl rfl rfl) rfl (l' := [(21, _), (20, _), (19, _), (18, _), (17, _), (16, _), (15, _), (3, _), (4, _), (10, _), (9, _), (8, _), (0, _)]) rfl ?_; intro a hf
        refine rdT hf rfl rfl rfl rfl (by first | exact hgT1 | simp [hgT1]) (yl_move rfl) rfl (l' := [(22, _), (21, _), (20, _), (19, _), (18, _), (17, _), (16, _), (15, _), (3, _), (4, _), (10, _), (9, _), (8, _), (0, _)]) rfl ?_; intro a hf
        by_cases hg7 : (0 : Int) < (k : Nat)
        · have hgT2 : decide ((0 : Int) < (k : Nat)) = true := by simpa using hg7
          have hjp : S[(((k : Nat) : Int) - 1).toNat]? = some (S[k - 1]'(by omega)) := by rw [show (((k : Nat) : Int) - 1).toNat = k - 1 by omega]; exact List.getElem?_eq_getElem _
          have hpo := (ho (k - 1) (by omega) (by omega)).1
          unfold Sp.Ok at hpo
          refine rdT hf rfl rfl rfl rfl (by first | exact hgT2 | simp [hgT2]) (yl_faddr Try.underlying65 rfl rfl sz_2 (k := 0) rfl) rfl (l' := [(23, _), (22, _), (21, _), (20, _), (19, _), (18, _), (17, _), (16, _), (15, _), (3, _), (4, _), (10, _), (9, _), (8, _), (0, _)]) rfl ?_; intro a hf
          refine rdT hf rfl rfl rfl rfl (by first | exact hgT2 | simp [hgT2]) (yl_load Try.underlying2 rfl rfl ⟨_, .head _, _, _, _, pt_self _ _, rfl⟩) rfl (l' := [(24, _), (23, _), (22, _), (21, _), (20, _), (19, _), (18, _), (17, _), (16, _), (15, _), (3, _), (4, _), (10, _), (9, _), (8, _), (0, _)]) rfl ?_; intro a hf
          refine rdT hf rfl rfl rfl rfl (by first | exact hgT2 | simp [hgT2]) (yl_move rfl) rfl (l' := [(25, _), (24, _), (23, _), (22, _), (21, _), (20, _), (19, _), (18, _), (17, _), (16, _), (15, _), (3, _), (4, _), (10, _), (9, _), (8, _), (0, _)]) rfl ?_; intro a hf
          refine rdT hf rfl rfl rfl rfl (by first | exact hgT2 | simp [hgT2]) (yl_move rfl) rfl (l' := [(26, _), (25, _), (24, _), (23, _), (22, _), (21, _), (20, _), (19, _), (18, _), (17, _), (16, _), (15, _), (3, _), (4, _), (10, _), (9, _), (8, _), (0, _)]) rfl ?_; intro a hf
          refine rdT hf rfl rfl rfl rfl (by first | exact hgT2 | simp [hgT2]) (yl_sub rfl rfl (by unfold inI64; omega)) rfl (l' := [(27, _), (26, _), (25, _), (24, _), (23, _), (22, _), (21, _), (20, _), (19, _), (18, _), (17, _), (16, _), (15, _), (3, _), (4, _), (10, _), (9, _), (8, _), (0, _)]) rfl ?_; intro a hf
          refine rdT hf rfl rfl rfl rfl (by first | exact hgT2 | simp [hgT2]) (yl_indexE rfl rfl Try.underlying58 sz_65 hE.app (by omega) (by omega)) rfl (l' := [(28, _), (27, _), (26, _), (25, _), (24, _), (23, _), (22, _), (21, _), (20, _), (19, _), (18, _), (17, _), (16, _), (15, _), (3, _), (4, _), (10, _), (9, _), (8, _), (0, _)]) rfl ?_; intro a hf
          refine rdT hf rfl rfl rfl rfl (by first | exact hgT2 | simp [hgT2]) (yl_faddr Try.underlying65 rfl rfl sz_2 rfl) rfl (l' := [(29, _), (28, _), (27, _), (26, _), (25, _), (24, _), (23, _), (22, _), (21, _), (20, _), (19, _), (18, _), (17, _), (16, _), (15, _), (3, _), (4, _), (10, _), (9, _), (8, _), (0, _)]) rfl ?_; intro a hf
          refine rdT hf rfl rfl rfl rfl (by first | exact hgT2 | simp [hgT2]) (yl_load Try.underlying2 rfl rfl (hE.app.cell hjp (f := 1) rfl)) rfl (l' := [(30, _), (29, _), (28, _), (27, _), (26, _), (25, _), (24, _), (23, _), (22, _), (21, _), (20, _), (19, _), (18, _), (17, _), (16, _), (15, _), (3, _), (4, _), (10, _), (9, _), (8, _), (0, _)]) rfl ?_; intro a hf
          refine rdT hf rfl rfl rfl rfl (by first | exact hgT2 | simp [hgT2]) (yl_add rfl rfl (by unfold inI64; omega)) rfl (l' := [(31, _), (30, _), (29, _), (28, _), (27, _), (26, _), (25, _), (24, _), (23, _), (22, _), (21, _), (20, _), (19, _), (18, _), (17, _), (16, _), (15, _), (3, _), (4, _), (10, _), (9, _), (8, _), (0, _)]) rfl ?_; intro a hf
          refine rdT hf rfl rfl rfl rfl (by first | exact hgT2 | simp [hgT2]) (yl_cmp rfl rfl rfl) rfl (l' := [(32, _), (31, _), (30, _), (29, _), (28, _), (27, _), (26, _), (25, _), (24, _), (23, _), (22, _), (21, _), (20, _), (19, _), (18, _), (17, _), (16, _), (15, _), (3, _), (4, _), (10, _), (9, _), (8, _), (0, _)]) rfl ?_; intro a hf
          refine rdT hf rfl rfl rfl rfl (by first | exact hgT1 | simp [hgT1]) (yl_pickTT rfl hgT2 rfl) rfl (l' := [(33, _), (32, _), (31, _), (30, _), (29, _), (28, _), (27, _), (26, _), (25, _), (24, _), (23, _), (22, _), (21, _), (20, _), (19, _), (18, _), (17, _), (16, _), (15, _), (3, _), (4, _), (10, _), (9, _), (8, _), (0, _)]) rfl ?_; intro a hf
          refine rd hf rfl (yl_pickFF rfl hgT1 rfl) rfl rfl ?_; intro a hf
          refine plan_nil ?_
          replace hf := hf.sel [34, 10, 9, 8, 0] (l' := [(34, _), (10, _), (9, _), (8, _), (0, _)]) rfl
          refine wp_ifd hf rfl (fun hlast => ?_) (fun hlast => ?_)
          · -- then
            have hbad := SetOk.not hltk (fun h => by have h1 := h.2 (by omega); omega)
            refine wpIn_seq ?_
            -- region 7 (bound.go:254)
            refine wp_reg ([]) ([_, _] ++ rs) [(0, true)] mixed (by kernel_rfl) (hT) ?_; intro w hT
            refine rd hf rfl (yl_assign rfl) rfl rfl ?_; intro a hf
            refine plan_nil ?_
            replace hf := hf.sel [2] (l' := [(2, _)]) rfl
            refine wpIn_ret ?_
            exact body_ret hf (L := []) hT.tail.tail rfl rfl ⟨by rw [setE_bad hm hbad]; rfl, rfl⟩
          · -- else
            refine wpIn_skip ?_
            -- region 8 (bound.go:252)
            refine wp_reg ([]) ([_, _] ++ rs) [(0, true), (1, true)] mixed (by kernel_rfl) (hT) ?_; intro w hT
            refine rd hf rfl (yl_add rfl rfl (by unfold inI64; omega)) rfl rfl ?_; intro a hf
            refine rw_ hf rfl (yl_move rfl) rfl (l' := [(10, _), (35, _), (34, _), (9, _), (8, _), (0, _)]) rfl ?_; intro a hf
            refine plan_nil ?_
            exact ⟨k + 1, _, hf.sel [10, 9, 8, 0] rfl, ⟨rfl, by omega, ho.step hltk hok (fun h0 => by omega)⟩, (hT.brings [1, 1]).tail.tail, by first | omega | (dsimp only; omega)⟩
        · have hgT2 : decide ((0 : Int) < (k : Nat)) = false := by simpa using hg7
          refine rdF hf rfl rfl rfl rfl (by first | exact hgT2 | simp [hgT2]) rfl (l' := [(23, _), (22, _), (21, _), (20, _), (19, _), (18, _), (17, _), (16, _), (15, _), (3, _), (4, _), (10, _), (9, _), (8, _), (0, _)]) rfl ?_; intro a hf
          refine rdF hf rfl rfl rfl rfl (by first | exact hgT2 | simp [hgT2]) rfl (l' := [(24, _), (23, _), (22, _), (21, _), (20, _), (19, _), (18, _), (17, _), (16, _), (15, _), (3, _), (4, _), (10, _), (9, _), (8, _), (0, _)]) rfl ?_; intro a hf
          refine rdF hf rfl rfl rfl rfl (by first | exact hgT2 | simp [hgT2]) rfl (l' := [(25, _), (24, _), (23, _), (22, _), (21, _), (20, _), (19, _), (18, _), (17, _), (16, _), (15, _), (3, _), (4, _), (10, _), (9, _), (8, _), (0, _)]) rfl ?_; intro a hf
          refine rdF hf rfl rfl rfl rfl (by first | exact hgT2 | simp [hgT2]) rfl (l' := [(26, _), (25, _), (24, _), (23, _), (22, _), (21, _), (20, _), (19, _), (18, _), (17, _), (16, _), (15, _), (3, _), (4, _), (10, _), (9, _), (8, _), (0, _)]) rfl ?_; intro a hf
          refine rdF hf rfl rfl rfl rfl (by first | exact hgT2 | simp [hgT2]) rfl (l' := [(27, _), (26, _), (25, _), (24, _), (23, _), (22, _), (21, _), (20, _), (19, _), (18, _), (17, _), (16, _), (15, _), (3, _), (4, _), (10, _), (9, _), (8, _), (0, _)]) rfl ?_; intro a hf
          refine rdF hf rfl rfl rfl rfl (by first | exact hgT2 | simp [hgT2]) rfl (l' := [(28, _), (27, _), (26, _), (25, _), (24, _), (23, _), (22, _), (21, _), (20, _), (19, _), (18, _), (17, _), (16, _), (15, _), (3, _), (4, _), (10, _), (9, _), (8, _), (0, _)]) rfl ?_; intro a hf
          refine rdF hf rfl rfl rfl rfl (by first | exact hgT2 | simp [hgT2]) rfl (l' := [(29, _), (28, _), (27, _), (26, _), (25, _), (24, _), (23, _), (22, _), (21, _), (20, _), (19, _), (18, _), (17, _), (16, _), (15, _), (3, _), (4, _), (10, _), (9, _), (8, _), (0, _)]) rfl ?_; intro a hf
          refine rdF hf rfl rfl rfl rfl (by first | exact hgT2 | simp [hgT2]) rfl (l' := [(30, _), (29, _), (28, _), (27, _), (26, _), (25, _), (24, _), (23, _), (22, _), (21, _), (20, _), (19, _), (18, _), (17, _), (16, _), (15, _), (3, _), (4, _), (10, _), (9, _), (8, _), (0, _)]) rfl ?_; intro a hf
          refine rdF hf rfl rfl rfl rfl (by first | exact hgT2 | simp [hgT2]) rfl (l' := [(31, _), (30, _), (29, _), (28, _), (27, _), (26, _), (25, _), (24, _), (23, _), (22, _), (21, _), (20, _), (19, _), (18, _), (17, _), (16, _), (15, _), (3, _), (4, _), (10, _), (9, _), (8, _), (0, _)]) rfl ?_; intro a hf
          refine rdF hf rfl rfl rfl rfl (by first | exact hgT2 | simp [hgT2]) rfl (l' := [(32, _), (31, _), (30, _), (29, _), (28, _), (27, _), (26, _), (25, _), (24, _), (23, _), (22, _), (21, _), (20, _), (19, _), (18, _), (17, _), (16, _), (15, _), (3, _), (4, _), (10, _), (9, _), (8, _), (0, _)]) rfl ?_; intro a hf
          refine rdT hf rfl rfl rfl rfl (by first | exact hgT1 | simp [hgT1]) (yl_pickFF rfl hgT2 rfl) rfl (l' := [(33, _), (32, _), (31, _), (30, _), (29, _), (28, _), (27, _), (26, _), (25, _), (24, _), (23, _), (22, _), (21, _), (20, _), (19, _), (18, _), (17, _), (16, _), (15, _), (3, _), (4, _), (10, _), (9, _), (8, _), (0, _)]) rfl ?_; intro a hf
          refine rd hf rfl (yl_pickFF rfl hgT1 rfl) rfl rfl ?_; intro a hf
          refine plan_nil ?_
          replace hf := hf.sel [34, 10, 9, 8, 0] (l' := [(34, _), (10, _), (9, _), (8, _), (0, _)]) rfl
          refine wp_ifFF hf rfl (rfl) ?_
          refine wpIn_skip ?_
          -- region 8 (bound.go:252)
          refine wp_reg ([]) ([_, _] ++ rs) [(0, true), (1, true)] mixed (by kernel_rfl) (hT) ?_; intro w hT
          refine rd hf rfl (yl_add rfl rfl (by unfold inI64; omega)) rfl rfl ?_; intro a hf
          refine rw_ hf rfl (yl_move rfl) rfl (l' := [(10, _), (35, _), (34, _), (9, _), (8, _), (0, _)]) rfl ?_; intro a hf
          refine plan_nil ?_
          exact ⟨k + 1, _, hf.sel [10, 9, 8, 0] rfl, ⟨rfl, by omega, ho.step hltk hok (fun h0 => by omega)⟩, (hT.brings [1, 1]).tail.tail, by first | omega | (dsimp only; omega)⟩
    · -- else
      obtain rfl : k = S.length := by omega
      refine wpIn_exit ?_
      refine then_exit ?_
      refine then_exit ?_
      refine inBlock_hit ?_
      refine wpIn_seq ?_
      -- region 9 (bound.go:257)
      refine wp_reg ([]) ([] ++ rs) [(0, true)] mixed (by kernel_rfl) (hT) ?_; intro w hT
      refine rd hf rfl (yl_assign rfl) rfl rfl ?_; intro a hf
      refine plan_nil ?_
      replace hf := hf.sel [2] (l' := [(2, _)]) rfl
      refine wpIn_ret ?_
      exact body_ret hf (L := []) hT rfl rfl ⟨by rw [setE_ok hm ho]; rfl, rfl⟩
theorem Has1_spec {e : Env} {w : World} {rs : List Part} (sp : Sp) (x : Int) (bb : Nat) (hbox : RowIn rs bb 0 [.int .i64 x]) (hT : Tot e w rs) : Spec Try.prog 86 #[encS sp, .pointer (some ⟨bb, 0, none⟩)] e w rs (fun v L => v = .bool (decide (sp.lo ≤ x ∧ x ≤ sp.hi)) ∧ L = []) := by
  refine spec_body Try.func86 rfl Try.ntmps86 rfl rfl ?_
  intro a hf
  refine wpIn_seq ?_
  -- region 0 (bound.go:386)
  refine wp_reg ([]) ([] ++ rs) [(0, false), (1, true)] mixed (by kernel_rfl) (hT) ?_; intro w hT
  refine ef hf hT rfl rfl (ef_box rfl) rfl (l' := [(0, _), (1, _)]) rfl ?_; rintro a w v L ⟨b1, rfl, rfl⟩ hf hT
  refine rd hf rfl (yl_assign rfl) rfl rfl ?_; intro a hf
  refine plan_nil ?_
  refine wpIn_seq ?_
  -- region 1 (bound.go:386)
  refine wp_reg ([]) ([_] ++ rs) [(0, true), (1, true), (2, true), (3, true), (4, true), (5, true), (6, true), (7, true), (8, true), (9, true), (10, true)] mixed (by kernel_rfl) (hT) ?_; intro w hT
  refine rd hf rfl (yl_load Try.underlying2 rfl rfl (hbox 0 _ rfl).app) rfl rfl ?_; intro a hf
  refine rd hf rfl (yl_faddr Try.underlying65 rfl rfl sz_2 (k := 0) rfl) rfl rfl ?_; intro a hf
  refine rd hf rfl (yl_load Try.underlying2 rfl rfl ⟨_, .head _, _, _, _, pt_self _ _, rfl⟩) rfl rfl ?_; intro a hf
  refine rd hf rfl (yl_cmp rfl rfl rfl) rfl rfl ?_; intro a hf
  refine rd hf rfl (yl_move rfl) rfl rfl ?_; intro a hf
  by_cases hg4 : sp.lo ≤ x
  · have hgT1 : decide (sp.lo ≤ x) = true := by simpa using hg4
    refine rdT hf rfl rfl rfl rfl (by first | exact hgT1 | simp [hgT1]) (yl_load Try.underlying2 rfl rfl (hbox 0 _ rfl).app) rfl (l' := [(9, _), (8, _), (7, _), (6, _), (5, _), (4, _), (3, _), (2, _), (0, _), (1, _)]) rfl ?_; intro a hf
    refine rdT hf rfl rfl rfl rfl (by first | exact hgT1 | simp [hgT1]) (yl_faddr Try.underlying65 rfl rfl sz_2 (k := 1) rfl) rfl (l' := [(10, _), (9, _), (8, _), (7, _), (6, _), (5, _), (4, _), (3, _), (2, _), (0, _), (1, _)]) rfl ?_; intro a hf
    refine rdT hf rfl rfl rfl rfl (by first | exact hgT1 | simp [hgT1]) (yl_load Try.underlying2 rfl rfl ⟨_, .head _, _, _, _, pt_self _ _, rfl⟩) rfl (l' := [(11, _), (10, _), (9, _), (8, _), (7, _), (6, _), (5, _), (4, _), (3, _), (2, _), (0, _), (1, _)]) rfl ?_; intro a hf
    refine rdT hf rfl rfl rfl rfl (by first | exact hgT1 | simp [hgT1]) (yl_cmp rfl rfl rfl) rfl (l' := [(12, _), (11, _), (10, _), (9, _), (8, _), (7, _), (6, _), (5, _), (4, _), (3, _), (2, _), (0, _), (1, _)]) rfl ?_; intro a hf
    refine rd hf rfl (yl_pickTT rfl hgT1 rfl) rfl rfl ?_; intro a hf
    refine rw_ hf rfl (yl_assign rfl) rfl (l' := [(3, _), (13, _), (12, _), (11, _), (10, _), (9, _), (8, _), (7, _), (6, _), (5, _), (4, _), (2, _), (0, _), (1, _)]) rfl ?_; intro a hf
    refine plan_nil ?_
    replace hf := hf.sel [3] (l' := [(3, _)]) rfl
    refine wpIn_ret ?_
    exact body_ret hf (L := []) hT.tail rfl rfl ⟨by simp [retv, *], rfl⟩
  · have hgT1 : decide (sp.lo ≤ x) = false := by simpa using hg4
    refine rdF hf rfl rfl rfl rfl (by first | exact hgT1 | simp [hgT1]) rfl (l' := [(9, _), (8, _), (7, _), (6, _), (5, _), (4, _), (3, _), (2, _), (0, _), (1, _)]) rfl ?_; intro a hf
    refine rdF hf rfl rfl rfl rfl (by first | exact hgT1 | simp [hgT1]) rfl (l' := [(10, _), (9, _), (8, _), (7, _), (6, _), (5, _), (4, _), (3, _), (2, _), (0, _), (1, _)]) rfl ?_; intro a hf
    refine rdF hf rfl rfl rfl rfl (by first | exact hgT1 | simp [hgT1]) rfl (l' := [(11, _), (10, _), (9, _), (8, _), (7, _), (6, _), (5, _), (4, _), (3, _), (2, _), (0, _), (1, _)]) rfl ?_; intro a hf
    refine rdF hf rfl rfl rfl rfl (by first | exact hgT1 | simp [hgT1]) rfl (l' := [(12, _), (11, _), (10, _), (9, _), (8, _), (7, _), (6, _), (5, _), (4, _), (3, _), (2, _), (0, _), (1, _)]) rfl ?_; intro a hf
    refine rd hf rfl (yl_pickFF rfl hgT1 rfl) rfl rfl ?_; intro a hf
    refine rw_ hf rfl (yl_assign rfl) rfl (l' := [(3, _), (13, _), (12, _), (11, _), (10, _), (9, _), (8, _), (7, _), (6, _), (5, _), (4, _), (2, _), (0, _), (1, _)]) rfl ?_; intro a hf
    refine plan_nil ?_
    replace hf := hf.sel [3] (l' := [(3, _)]) rfl
    refine wpIn_ret ?_
    exact body_ret hf (L := []) hT.tail rfl rfl ⟨by simp [retv, *], rfl⟩
theorem IndexSp_spec {e : Env} {w : World} {rs : List Part} (S : List Sp) (v0 : Value) (hE : Els encSp rs v0 S) (x : Int) (bb : Nat) (hbox : RowIn rs bb 0 [.int .i64 x]) (hT : Tot e w rs) : Spec Try.prog 108 #[v0, .func (.func 86) #[] #[.pointer (some ⟨bb, 0, none⟩)]] e w rs (fun v L => ∃ j : Int, v = .int .i64 j ∧ (decide (0 ≤ j) = inS S x) ∧ L = []) := by
  refine spec_body Try.func108 rfl Try.ntmps108 rfl rfl ?_
  intro a hf
  refine wpIn_seq ?_
  -- region 0 (slices.go:107)
  refine wp_reg ([]) ([] ++ rs) [(0, true)] mixed (by kernel_rfl) (hT) ?_; intro w hT
  refine rd hf rfl (yl_assign rfl) rfl rfl ?_; intro a hf
  refine plan_nil ?_
  refine wpIn_seq ?_
  refine wpIn_seq ?_
  -- region 1 (slices.go:108)
  refine wp_reg ([]) ([] ++ rs) [(0, true), (1, true), (2, true)] mixed (by kernel_rfl) (hT) ?_; intro w hT
  refine rd hf rfl (yl_move rfl) rfl rfl ?_; intro a hf
  refine rd hf rfl (yl_lenE rfl Try.underlying58 hE.app) rfl rfl ?_; intro a hf
  refine rd hf rfl (yl_move rfl) rfl rfl ?_; intro a hf
  refine plan_nil ?_
  refine wpIn_block ?_
  have hlen := hE.len_le
  refine wp_loopS (σ := Nat) (fun k => [(8, .int .i64 (k : Nat))]) [(7, _), (0, _), (1, _)] (fun k L => L = [] ∧ k ≤ S.length ∧ ∀ j (h : j < S.length), j < k → ¬ (S[j].lo ≤ x ∧ x ≤ S[j].hi)) (fun k => S.length - k) 0 (L := []) (R := [] ++ rs) (hf.sel [8, 7, 0, 1] rfl) (⟨rfl, Nat.zero_le _, fun j h hj => absurd hj (Nat.not_lt_zero _)⟩) hT ?_
  clear hf hT; rintro k a w L hf ⟨rfl, hk, ho⟩ hT
  replace hf : Fr _ [(8, .int .i64 (k : Nat)), (7, _), (0, _), (1, _)] _ _ := hf
  refine wpIn_seq ?_
  -- region 2 (slices.go:108)
  refine wp_reg ([]) ([] ++ rs) [(0, true)] mixed (by kernel_rfl) (hT) ?_; intro w hT
  refine rd hf rfl (yl_cmp rfl rfl rfl) rfl rfl ?_; intro a hf
  refine plan_nil ?_
  refine wpIn_seq ?_
  refine wp_ifd hf rfl (fun hlt => ?_) (fun hlt => ?_)
  · -- then
    have hltk : k < S.length := by omega
    have hj : S[k]? = some S[k] := List.getElem?_eq_getElem hltk
    refine wpIn_skip ?_
    refine wpIn_seq ?_
    refine wpIn_block ?_
    refine wpIn_seq ?_
    -- region 3 (slices.go:108)
    refine wp_reg ([]) ([] ++ rs) [(0, true), (1, true)] mixed (by kernel_rfl) (hT) ?_; intro w hT
    refine rd hf rfl (yl_move rfl) rfl rfl ?_; intro a hf
    refine rd hf rfl (yl_assign rfl) rfl rfl ?_; intro a hf
    refine plan_nil ?_
    refine wpIn_seq ?_
    -- region 4 (slices.go:109)
    refine wp_reg ([]) ([] ++ rs) [(0, true), (1, true), (2, true), (3, true), (4, true), (5, false)] mixed (by kernel_rfl) (hT) ?_; intro w hT
    refine rd hf rfl (yl_move rfl) rfl rfl ?_; intro a hf
    refine rd hf rfl (yl_move rfl) rfl rfl ?_; intro a hf
    refine rd hf rfl (yl_move rfl) rfl rfl ?_; intro a hf
    refine rd hf rfl (yl_indexE rfl rfl Try.underlying58 sz_65 hE.app (by omega) (by omega)) rfl rfl ?_; intro a hf
    refine rd hf rfl (yl_loadA Try.underlying65 rfl sz_65 rfl (hE.app.row hj) rfl) rfl rfl ?_; intro a hf
    refine ef_call hf rfl (wanted_none _ _ rfl) rfl rfl (by kernel_rfl) (Spec.frame (L2 := []) (Has1_spec S[k] x bb hbox hT)) rfl (l' := [(15, _), (14, _), (13, _), (12, _), (11, _), (5, _), (10, _), (9, _), (8, _), (7, _), (0, _), (1, _)]) rfl ?_; rintro a w v L ⟨L1, ⟨rfl, rfl⟩, rfl⟩ hf hT
    refine plan_nil ?_
    replace hf := hf.sel [16, 5, 8, 7, 0, 1] (l' := [(16, _), (5, _), (8, _), (7, _), (0, _), (1, _)]) rfl
    refine wp_ifd hf rfl (fun hin => ?_) (fun hin => ?_)
    · -- then
      refine wpIn_seq ?_
      -- region 5 (slices.go:110)
      refine wp_reg ([]) ([] ++ rs) [(0, true), (1, true)] mixed (by kernel_rfl) (hT) ?_; intro w hT
      refine rd hf rfl (yl_move rfl) rfl rfl ?_; intro a hf
      refine rd hf rfl (yl_assign rfl) rfl rfl ?_; intro a hf
      refine plan_nil ?_
      replace hf := hf.sel [4] (l' := [(4, _)]) rfl
      refine wpIn_ret ?_
      exact body_ret hf (L := []) hT rfl rfl ⟨_, rfl, by rw [inS_at hltk hin]; simp, rfl⟩
    · -- else
      refine wpIn_skip ?_
      -- region 6 (slices.go:108)
      refine wp_reg ([]) ([] ++ rs) [(0, true), (1, true)] mixed (by kernel_rfl) (hT) ?_; intro w hT
      refine rd hf rfl (yl_add rfl rfl (by unfold inI64; omega)) rfl rfl ?_; intro a hf
      refine rw_ hf rfl (yl_move rfl) rfl (l' := [(8, _), (18, _), (16, _), (5, _), (7, _), (0, _), (1, _)]) rfl ?_; intro a hf
      refine plan_nil ?_
      replace hf := hf.sel [8, 7, 0, 1] (l' := [(8, _), (7, _), (0, _), (1, _)]) rfl
      exact ⟨k + 1, _, hf.sel [8, 7, 0, 1] rfl, ⟨rfl, by omega, fun j h hj => by by_cases hjk : j = k; subst hjk; exact hin; exact ho j h (by omega)⟩, hT, by first | omega | (dsimp only; omega)⟩
  · -- else
    obtain rfl : k = S.length := by omega
    refine wpIn_exit ?_
    refine then_exit ?_
    refine then_exit ?_
    refine inBlock_hit ?_
    refine wpIn_seq ?_
    -- region 7 (slices.go:113)
    refine wp_reg ([]) ([] ++ rs) [(0, true)] mixed (by kernel_rfl) (hT) ?_; intro w hT
    refine rd hf rfl (yl_assign rfl) rfl rfl ?_; intro a hf
    refine plan_nil ?_
    replace hf := hf.sel [4] (l' := [(4, _)]) rfl
    refine wpIn_ret ?_
    exact body_ret hf (L := []) hT rfl rfl ⟨_, rfl, by rw [inS_none (fun j hj => ho j hj hj)]; simp, rfl⟩
theorem ContainsSp_spec {e : Env} {w : World} {rs : List Part} (S : List Sp) (v0 : Value) (hE : Els encSp rs v0 S) (x : Int) (bb : Nat) (hbox : RowIn rs bb 0 [.int .i64 x]) (hT : Tot e w rs) : Spec Try.prog 85 #[v0, .func (.func 86) #[] #[.pointer (some ⟨bb, 0, none⟩)]] e w rs (fun v L => v = .bool (inS S x) ∧ L = []) := by
  refine spec_body Try.func85 rfl Try.ntmps85 rfl rfl ?_
  intro a hf
  refine wpIn_seq ?_
  -- region 0 (slices.go:124)
  refine wp_reg ([]) ([] ++ rs) [(0, true)] mixed (by kernel_rfl) (hT) ?_; intro w hT
  refine rd hf rfl (yl_assign rfl) rfl rfl ?_; intro a hf
  refine plan_nil ?_
  refine wpIn_seq ?_
  -- region 1 (slices.go:125)
  refine wp_reg ([]) ([] ++ rs) [(0, true), (1, true), (2, false), (3, true), (4, true)] mixed (by kernel_rfl) (hT) ?_; intro w hT
  refine rd hf rfl (yl_move rfl) rfl rfl ?_; intro a hf
  refine rd hf rfl (yl_move rfl) rfl rfl ?_; intro a hf
  refine ef_call hf rfl (wanted_none _ _ rfl) rfl rfl (by kernel_rfl) (Spec.frame (L2 := []) (IndexSp_spec S v0 hE x bb hbox hT)) rfl (l' := [(6, _), (5, _), (4, _), (0, _), (1, _)]) rfl ?_; rintro a w v L ⟨L1, ⟨j, rfl, hj, rfl⟩, rfl⟩ hf hT
  refine rd hf rfl (yl_cmp rfl rfl rfl) rfl rfl ?_; intro a hf
  refine rw_ hf rfl (yl_assign rfl) rfl (l' := [(4, _), (8, _), (7, _), (6, _), (5, _), (0, _), (1, _)]) rfl ?_; intro a hf
  refine plan_nil ?_
  replace hf := hf.sel [4] (l' := [(4, _)]) rfl
  refine wpIn_ret ?_
  exact body_ret hf (L := []) hT rfl rfl ⟨by simp only [retv]; rw [hj], rfl⟩
theorem Has_spec {e : Env} {w : World} {rs : List Part} (S : List Sp) (v0 : Value) (hE : Els encSp rs v0 S) (x : Int) (hT : Tot e w rs) : Spec Try.prog 43 #[v0, .int .i64 x] e w rs (fun v L => v = (if setE S = 0 then .tuple #[.bool (inS S x), .int .i64 0] else .tuple #[.bool false, .int .i64 (setE S)]) ∧ L = []) := by
  refine spec_body Try.func43 rfl Try.ntmps43 rfl rfl ?_
  intro a hf
  refine wpIn_seq ?_
  -- region 0 (bound.go:382)
  refine wp_reg ([]) ([] ++ rs) [(0, false), (1, true), (2, true)] mixed (by kernel_rfl) (hT) ?_; intro w hT
  refine ef hf hT rfl rfl (ef_box rfl) rfl (l' := [(0, _), (1, _)]) rfl ?_; rintro a w v L ⟨b1, rfl, rfl⟩ hf hT
  refine rd hf rfl (yl_assign rfl) rfl rfl ?_; intro a hf
  refine rd hf rfl (yl_assign rfl) rfl rfl ?_; intro a hf
  refine plan_nil ?_
  replace hf := hf.sel [3, 0] (l' := [(3, _), (0, _)]) rfl
  refine wpIn_seq ?_
  refine wpIn_seq ?_
  -- region 1 (bound.go:383)
  refine wp_reg ([]) ([_] ++ rs) [(0, true), (1, false), (2, true)] mixed (by kernel_rfl) (hT) ?_; intro w hT
  refine rd hf rfl (yl_move rfl) rfl rfl ?_; intro a hf
  refine ef_call hf rfl (wanted_none _ _ rfl) rfl rfl (by kernel_rfl) (Spec.frame (L2 := []) (CheckSet_spec S v0 hE.app hT)) rfl (l' := [(7, _), (3, _), (0, _)]) rfl ?_; rintro a w v L ⟨L1, ⟨rfl, rfl⟩, rfl⟩ hf hT
  refine rd hf rfl (yl_assign rfl) rfl rfl ?_; intro a hf
  refine plan_nil ?_
  refine wpIn_seq ?_
  -- region 2 (bound.go:383)
  refine wp_reg ([]) ([_] ++ rs) [(0, true), (1, true)] mixed (by kernel_rfl) (hT) ?_; intro w hT
  refine rd hf rfl (yl_move rfl) rfl rfl ?_; intro a hf
  refine rd hf rfl (yl_cmp rfl rfl rfl) rfl rfl ?_; intro a hf
  refine plan_nil ?_
  replace hf := hf.sel [10, 6, 3, 0] (l' := [(10, _), (6, _), (3, _), (0, _)]) rfl
  refine wp_ifd hf rfl (fun hne => ?_) (fun hne => ?_)
  · -- then
    refine wpIn_seq ?_
    -- region 3 (bound.go:384)
    refine wp_reg ([]) ([_] ++ rs) [(0, true), (1, true), (2, true)] mixed (by kernel_rfl) (hT) ?_; intro w hT
    refine rd hf rfl (yl_move rfl) rfl rfl ?_; intro a hf
    refine rd hf rfl (yl_assign rfl) rfl rfl ?_; intro a hf
    refine rd hf rfl (yl_assign rfl) rfl rfl ?_; intro a hf
    refine plan_nil ?_
    replace hf := hf.sel [5, 4] (l' := [(5, _), (4, _)]) rfl
    refine wpIn_ret ?_
    exact body_ret hf (L := []) hT.tail rfl rfl ⟨by rw [if_neg hne]; rfl, rfl⟩
  · -- else
    refine wpIn_skip ?_
    refine wpIn_seq ?_
    -- region 4 (bound.go:386)
    refine wp_reg ([]) ([_] ++ rs) [(0, true), (1, true), (2, false), (3, true), (4, true)] mixed (by kernel_rfl) (hT) ?_; intro w hT
    refine rd hf rfl (yl_move rfl) rfl rfl ?_; intro a hf
    refine rd hf rfl (yl_func rfl) rfl rfl ?_; intro a hf
    refine ef_call hf rfl (wanted_none _ _ rfl) rfl rfl (by kernel_rfl) (Spec.frame (L2 := []) (ContainsSp_spec S v0 hE.app x b1 (RowIn.of_block (.head _) (pt_self _ _) (fun j hj => by simp at hj; obtain rfl : j = 0 := (by omega); rfl)) hT)) rfl (l' := [(13, _), (12, _), (10, _), (6, _), (3, _), (0, _)]) rfl ?_; rintro a w v L ⟨L1, ⟨rfl, rfl⟩, rfl⟩ hf hT
    refine rd hf rfl (yl_assign rfl) rfl rfl ?_; intro a hf
    refine rd hf rfl (yl_assign rfl) rfl rfl ?_; intro a hf
    refine plan_nil ?_
    replace hf := hf.sel [5, 4] (l' := [(5, _), (4, _)]) rfl
    refine wpIn_ret ?_
    exact body_ret hf (L := []) hT.tail rfl rfl ⟨by rw [if_pos (by omega)]; rfl, rfl⟩
theorem rWithin_spec {e : Env} {w : World} {rs : List Part} (x lo hi : Int) (hT : Tot e w rs) : Spec Try.prog 96 #[.int .i64 x, .int .i64 lo, .int .i64 hi] e w rs (fun v L => v = .bool (decide (lo ≤ x ∧ x ≤ hi)) ∧ L = []) := by
  refine spec_body Try.func96 rfl Try.ntmps96 rfl rfl ?_
  intro a hf
  refine wpIn_seq ?_
  -- region 0 (ref.go:7)
  refine wp_reg ([]) ([] ++ rs) [(0, true)] mixed (by kernel_rfl) (hT) ?_; intro w hT
  refine rd hf rfl (yl_assign rfl) rfl rfl ?_; intro a hf
  refine plan_nil ?_
  refine wpIn_seq ?_
  -- region 1 (ref.go:7)
  refine wp_reg ([]) ([] ++ rs) [(0, true), (1, true), (2, true), (3, true), (4, true), (5, true), (6, true), (7, true), (8, true)] mixed (by kernel_rfl) (hT) ?_; intro w hT
  refine rd hf rfl (yl_move rfl) rfl rfl ?_; intro a hf
  refine rd hf rfl (yl_move rfl) rfl rfl ?_; intro a hf
  refine rd hf rfl (yl_cmp rfl rfl rfl) rfl rfl ?_; intro a hf
  refine rd hf rfl (yl_move rfl) rfl rfl ?_; intro a hf
  by_cases hg3 : lo ≤ x
  · have hgT1 : decide (lo ≤ x) = true := by simpa using hg3
    refine rdT hf rfl rfl rfl rfl (by first | exact hgT1 | simp [hgT1]) (yl_move rfl) rfl (l' := [(11, _), (10, _), (9, _), (8, _), (7, _), (6, _), (0, _), (1, _), (2, _)]) rfl ?_; intro a hf
    refine rdT hf rfl rfl rfl rfl (by first | exact hgT1 | simp [hgT1]) (yl_move rfl) rfl (l' := [(12, _), (11, _), (10, _), (9, _), (8, _), (7, _), (6, _), (0, _), (1, _), (2, _)]) rfl ?_; intro a hf
    refine rdT hf rfl rfl rfl rfl (by first | exact hgT1 | simp [hgT1]) (yl_cmp rfl rfl rfl) rfl (l' := [(13, _), (12, _), (11, _), (10, _), (9, _), (8, _), (7, _), (6, _), (0, _), (1, _), (2, _)]) rfl ?_; intro a hf
    refine rd hf rfl (yl_pickTT rfl hgT1 rfl) rfl rfl ?_; intro a hf
    refine rw_ hf rfl (yl_assign rfl) rfl (l' := [(6, _), (14, _), (13, _), (12, _), (11, _), (10, _), (9, _), (8, _), (7, _), (0, _), (1, _), (2, _)]) rfl ?_; intro a hf
    refine plan_nil ?_
    replace hf := hf.sel [6] (l' := [(6, _)]) rfl
    refine wpIn_ret ?_
    exact body_ret hf (L := []) hT rfl rfl ⟨by simp [retv, *], rfl⟩
  · have hgT1 : decide (lo ≤ x) = false := by simpa using hg3
    refine rdF hf rfl rfl rfl rfl (by first | exact hgT1 | simp [hgT1]) rfl (l' := [(11, _), (10, _), (9, _), (8, _), (7, _), (6, _), (0, _), (1, _), (2, _)]) rfl ?_; intro a hf
    refine rdF hf rfl rfl rfl rfl (by first | exact hgT1 | simp [hgT1]) rfl (l' := [(12, _), (11, _), (10, _), (9, _), (8, _), (7, _), (6, _), (0, _), (1, _), (2, _)]) rfl ?_; intro a hf
    refine rdF hf rfl rfl rfl rfl (by first | exact hgT1 | simp [hgT1]) rfl (l' := [(13, _), (12, _), (11, _), (10, _), (9, _), (8, _), (7, _), (6, _), (0, _), (1, _), (2, _)]) rfl ?_; intro a hf
    refine rd hf rfl (yl_pickFF rfl hgT1 rfl) rfl rfl ?_; intro a hf
    refine rw_ hf rfl (yl_assign rfl) rfl (l' := [(6, _), (14, _), (13, _), (12, _), (11, _), (10, _), (9, _), (8, _), (7, _), (0, _), (1, _), (2, _)]) rfl ?_; intro a hf
    refine plan_nil ?_
    replace hf := hf.sel [6] (l' := [(6, _)]) rfl
    refine wpIn_ret ?_
    exact body_ret hf (L := []) hT rfl rfl ⟨by simp [retv, *], rfl⟩
theorem rValid_spec {e : Env} {w : World} {rs : List Part} (sp : Sp) (hT : Tot e w rs) : Spec Try.prog 95 #[encS sp] e w rs (fun v L => v = .bool (decide sp.Ok) ∧ L = []) := by
  refine spec_body Try.func95 rfl Try.ntmps95 rfl rfl ?_
  intro a hf
  refine wpIn_seq ?_
  -- region 0 (ref.go:10)
  refine wp_reg ([]) ([] ++ rs) [(0, false), (1, true)] mixed (by kernel_rfl) (hT) ?_; intro w hT
  refine ef hf hT rfl rfl (ef_box rfl) rfl (l' := [(0, _)]) rfl ?_; rintro a w v L ⟨b1, rfl, rfl⟩ hf hT
  refine rd hf rfl (yl_assign rfl) rfl rfl ?_; intro a hf
  refine plan_nil ?_
  refine wpIn_seq ?_
  -- region 1 (ref.go:11)
  refine wp_reg ([]) ([_] ++ rs) [(0, true), (1, true), (2, true), (3, true), (4, true), (5, true), (6, true), (7, true), (8, false), (9, true), (10, true), (11, true), (12, true), (13, false), (14, true), (15, true)] mixed (by kernel_rfl) (hT) ?_; intro w hT
  refine rd hf rfl (yl_faddr Try.underlying65 rfl rfl sz_2 (k := 0) rfl) rfl rfl ?_; intro a hf
  refine rd hf rfl (yl_load Try.underlying2 rfl rfl ⟨_, .head _, _, _, _, pt_self _ _, rfl⟩) rfl rfl ?_; intro a hf
  refine rd hf rfl (yl_faddr Try.underlying65 rfl rfl sz_2 (k := 1) rfl) rfl rfl ?_; intro a hf
  refine rd hf rfl (yl_load Try.underlying2 rfl rfl ⟨_, .head _, _, _, _, pt_self _ _, rfl⟩) rfl rfl ?_; intro a hf
  refine rd hf rfl (yl_cmp rfl rfl rfl) rfl rfl ?_; intro a hf
  refine rd hf rfl (yl_move rfl) rfl rfl ?_; intro a hf
  by_cases hg5 : sp.lo ≤ sp.hi
  · have hgT1 : decide (sp.lo ≤ sp.hi) = true := by simpa using hg5
    refine rdT hf rfl rfl rfl rfl (by first | exact hgT1 | simp [hgT1]) (yl_faddr Try.underlying65 rfl rfl sz_2 (k := 0) rfl) rfl (l' := [(9, _), (8, _), (7, _), (6, _), (5, _), (4, _), (3, _), (2, _), (1, _), (0, _)]) rfl ?_; intro a hf
    refine rdT hf rfl rfl rfl rfl (by first | exact hgT1 | simp [hgT1]) (yl_load Try.underlying2 rfl rfl ⟨_, .head _, _, _, _, pt_self _ _, rfl⟩) rfl (l' := [(10, _), (9, _), (8, _), (7, _), (6, _), (5, _), (4, _), (3, _), (2, _), (1, _), (0, _)]) rfl ?_; intro a hf
    refine ef_call hf rfl (by rw [wanted_some hf rfl rfl rfl rfl]; first | exact beqT hgT1 | simp [hgT1]) rfl rfl (by kernel_rfl) (Spec.frame (L2 := []) (rWithin_spec _ _ _ hT)) rfl (l' := [(10, _), (9, _), (8, _), (7, _), (6, _), (5, _), (4, _), (3, _), (2, _), (1, _), (0, _)]) rfl ?_; rintro a w v L ⟨L1, ⟨rfl, rfl⟩, rfl⟩ hf hT
    refine rd hf rfl (yl_pickTT rfl hgT1 rfl) rfl rfl ?_; intro a hf
    refine rd hf rfl (yl_move rfl) rfl rfl ?_; intro a hf
    by_cases hg10 : -1073741824 ≤ sp.lo ∧ sp.lo ≤ 1073741824
    · have hgT2 : decide (-1073741824 ≤ sp.lo ∧ sp.lo ≤ 1073741824) = true := by simpa using hg10
      refine rdT hf rfl rfl rfl rfl (by first | exact hgT2 | simp [hgT2]) (yl_faddr Try.underlying65 rfl rfl sz_2 (k := 1) rfl) rfl (l' := [(14, _), (13, _), (12, _), (11, _), (10, _), (9, _), (8, _), (7, _), (6, _), (5, _), (4, _), (3, _), (2, _), (1, _), (0, _)]) rfl ?_; intro a hf
      refine rdT hf rfl rfl rfl rfl (by first | exact hgT2 | simp [hgT2]) (yl_load Try.underlying2 rfl rfl ⟨_, .head _, _, _, _, pt_self _ _, rfl⟩) rfl (l' := [(15, _), (14, _), (13, _), (12, _), (11, _), (10, _), (9, _), (8, _), (7, _), (6, _), (5, _), (4, _), (3, _), (2, _), (1, _), (0, _)]) rfl ?_; intro a hf
      refine ef_call hf rfl (by rw [wanted_some hf rfl rfl rfl rfl]; first | exact beqT hgT2 | simp [hgT2]) rfl rfl (by kernel_rfl) (Spec.frame (L2 := []) (rWithin_spec _ _ _ hT)) rfl (l' := [(15, _), (14, _), (13, _), (12, _), (11, _), (10, _), (9, _), (8, _), (7, _), (6, _), (5, _), (4, _), (3, _), (2, _), (1, _), (0, _)]) rfl ?_; rintro a w v L ⟨L1, ⟨rfl, rfl⟩, rfl⟩ hf hT
      refine rd hf rfl (yl_pickTT rfl hgT2 rfl) rfl rfl ?_; intro a hf
      refine rw_ hf rfl (yl_assign rfl) rfl (l' := [(2, _), (17, _), (16, _), (15, _), (14, _), (13, _), (12, _), (11, _), (10, _), (9, _), (8, _), (7, _), (6, _), (5, _), (4, _), (3, _), (1, _), (0, _)]) rfl ?_; intro a hf
      refine plan_nil ?_
      replace hf := hf.sel [2] (l' := [(2, _)]) rfl
      refine wpIn_ret ?_
      exact body_ret hf (L := []) hT.tail rfl rfl ⟨by simp only [retv]; congr 1; first | (apply decide_eq_decide.2; unfold Sp.Ok; omega) | (symm; apply decide_eq_false; unfold Sp.Ok; omega), rfl⟩
    · have hgT2 : decide (-1073741824 ≤ sp.lo ∧ sp.lo ≤ 1073741824) = false := by simpa using hg10
      refine rdF hf rfl rfl rfl rfl (by first | exact hgT2 | simp [hgT2]) rfl (l' := [(14, _), (13, _), (12, _), (11, _), (10, _), (9, _), (8, _), (7, _), (6, _), (5, _), (4, _), (3, _), (2, _), (1, _), (0, _)]) rfl ?_; intro a hf
      refine rdF hf rfl rfl rfl rfl (by first | exact hgT2 | simp [hgT2]) rfl (l' := [(15, _), (14, _), (13, _), (12, _), (11, _), (10, _), (9, _), (8, _), (7, _), (6, _), (5, _), (4, _), (3, _), (2, _), (1, _), (0, _)]) rfl ?_; intro a hf
      refine efF hf rfl rfl rfl rfl (by first | exact hgT2 | simp [hgT2]) hT.allR (by simp [Nat.blt]) (l' := [(16, _), (15, _), (14, _), (13, _), (12, _), (11, _), (10, _), (9, _), (8, _), (7, _), (6, _), (5, _), (4, _), (3, _), (2, _), (1, _), (0, _)]) rfl ?_; intro a hf
      refine rd hf rfl (yl_pickFF rfl hgT2 rfl) rfl rfl ?_; intro a hf
      refine rw_ hf rfl (yl_assign rfl) rfl (l' := [(2, _), (17, _), (16, _), (15, _), (14, _), (13, _), (12, _), (11, _), (10, _), (9, _), (8, _), (7, _), (6, _), (5, _), (4, _), (3, _), (1, _), (0, _)]) rfl ?_; intro a hf
      refine plan_nil ?_
      replace hf := hf.sel [2] (l' := [(2, _)]) rfl
      refine wpIn_ret ?_
      exact body_ret hf (L := []) hT.tail rfl rfl ⟨by simp only [retv]; congr 1; first | (apply decide_eq_decide.2; unfold Sp.Ok; omega) | (symm; apply decide_eq_false; unfold Sp.Ok; omega), rfl⟩
  · have hgT1 : decide (sp.lo ≤ sp.hi) = false := by simpa using hg5
    refine rdF hf rfl rfl rfl rfl (by first | exact hgT1 | simp [hgT1]) rfl (l' := [(9, _), (8, _), (7, _), (6, _), (5, _), (4, _), (3, _), (2, _), (1, _), (0, _)]) rfl ?_; intro a hf
    refine rdF hf rfl rfl rfl rfl (by first | exact hgT1 | simp [hgT1]) rfl (l' := [(10, _), (9, _), (8, _), (7, _), (6, _), (5, _), (4, _), (3, _), (2, _), (1, _), (0, _)]) rfl ?_; intro a hf
    refine efF hf rfl rfl rfl rfl (by first | exact hgT1 | simp [hgT1]) hT.allR (by simp [Nat.blt]) (l' := [(11, _), (10, _), (9, _), (8, _), (7, _), (6, _), (5, _), (4, _), (3, _), (2, _), (1, _), (0, _)]) rfl ?_; intro a hf
    refine rd hf rfl (yl_pickFF rfl hgT1 rfl) rfl rfl ?_; intro a hf
    refine rd hf rfl (yl_move rfl) rfl rfl ?_; intro a hf
    refine rdF hf rfl rfl rfl rfl (rfl) rfl (l' := [(14, _), (13, _), (12, _), (11, _), (10, _), (9, _), (8, _), (7, _), (6, _), (5, _), (4, _), (3, _), (2, _), (1, _), (0, _)]) rfl ?_; intro a hf
    refine rdF hf rfl rfl rfl rfl (rfl) rfl (l' := [(15, _), (14, _), (13, _), (12, _), (11, _), (10, _), (9, _), (8, _), (7, _), (6, _), (5, _), (4, _), (3, _), (2, _), (1, _), (0, _)]) rfl ?_; intro a hf
    refine efF hf rfl rfl rfl rfl (rfl) hT.allR (by simp [Nat.blt]) (l' := [(16, _), (15, _), (14, _), (13, _), (12, _), (11, _), (10, _), (9, _), (8, _), (7, _), (6, _), (5, _), (4, _), (3, _), (2, _), (1, _), (0, _)]) rfl ?_; intro a hf
    refine rd hf rfl (yl_pickFF rfl rfl rfl) rfl rfl ?_; intro a hf
    refine rw_ hf rfl (yl_assign rfl) rfl (l' := [(2, _), (17, _), (16, _), (15, _), (14, _), (13, _), (12, _), (11, _), (10, _), (9, _), (8, _), (7, _), (6, _), (5, _), (4, _), (3, _), (1, _), (0, _)]) rfl ?_; intro a hf
    refine plan_nil ?_
    replace hf := hf.sel [2] (l' := [(2, _)]) rfl
    refine wpIn_ret ?_
    exact body_ret hf (L := []) hT.tail rfl rfl ⟨by simp only [retv]; congr 1; first | (apply decide_eq_decide.2; unfold Sp.Ok; omega) | (symm; apply decide_eq_false; unfold Sp.Ok; omega), rfl⟩
theorem rCheckSet_spec {e : Env} {w : World} {rs : List Part} (S : List Sp) (v0 : Value) (hE : Els encSp rs v0 S) (hT : Tot e w rs) : Spec Try.prog 63 #[v0] e w rs (fun v L => v = .int .i64 (setE S) ∧ L = []) := by
  refine spec_body Try.func63 rfl Try.ntmps63 rfl rfl ?_
  intro a hf
  refine wpIn_seq ?_
  -- region 0 (ref.go:245)
  refine wp_reg ([]) ([] ++ rs) [(0, true)] mixed (by kernel_rfl) (hT) ?_; intro w hT
  refine rd hf rfl (yl_assign rfl) rfl rfl ?_; intro a hf
  refine plan_nil ?_
  refine wpIn_seq ?_
  refine wpIn_seq ?_
  -- region 1 (ref.go:246)
  refine wp_reg ([]) ([] ++ rs) [(0, true), (1, true), (2, true)] mixed (by kernel_rfl) (hT) ?_; intro w hT
  refine rd hf rfl (yl_move rfl) rfl rfl ?_; intro a hf
  refine rd hf rfl (yl_lenE rfl Try.underlying58 hE.app) rfl rfl ?_; intro a hf
  refine rd hf rfl (yl_cmp rfl rfl rfl) rfl rfl ?_; intro a hf
  refine plan_nil ?_
  replace hf := hf.sel [6, 0] (l' := [(6, _), (0, _)]) rfl
  refine wp_ifd hf rfl (fun hmany => ?_) (fun hmany => ?_)
  · -- then
    have hm : 256 < S.length := by omega
    refine wpIn_seq ?_
    -- region 2 (ref.go:247)
    refine wp_reg ([]) ([] ++ rs) [(0, true)] mixed (by kernel_rfl) (hT) ?_; intro w hT
    refine rd hf rfl (yl_assign rfl) rfl rfl ?_; intro a hf
    refine plan_nil ?_
    refine wpIn_ret ?_
    exact body_ret hf (L := []) hT rfl rfl ⟨by rw [setE_many hm]; rfl, rfl⟩
  · -- else
    have hm : ¬ 256 < S.length := by omega
    refine wpIn_skip ?_
    refine wpIn_seq ?_
    refine wpIn_seq ?_
    -- region 3 (ref.go:249)
    refine wp_reg ([]) ([] ++ rs) [(0, true)] mixed (by kernel_rfl) (hT) ?_; intro w hT
    refine rd hf rfl (yl_assign rfl) rfl rfl ?_; intro a hf
    refine plan_nil ?_
    refine wpIn_block ?_
    have hlen := hE.len_le
    refine wp_loopS (σ := Nat) (fun k => [(3, .int .i64 (k : Nat))]) [(0, _)] (fun k L => L = [] ∧ k ≤ S.length ∧ SetTo S k) (fun k => S.length - k) 0 (L := []) (R := [] ++ rs) (hf.sel [3, 0] rfl) (⟨rfl, Nat.zero_le _, fun j h hj => absurd hj (Nat.not_lt_zero _)⟩) hT ?_
    clear hf hT; rintro k a w L hf ⟨rfl, hk, ho⟩ hT
    replace hf : Fr _ [(3, .int .i64 (k : Nat)), (0, _)] _ _ := hf
    refine wpIn_seq ?_
    refine wpIn_seq ?_
    -- region 4 (ref.go:249)
    refine wp_reg ([]) ([] ++ rs) [(0, true), (1, true), (2, true), (3, true)] mixed (by kernel_rfl) (hT) ?_; intro w hT
    refine rd hf rfl (yl_move rfl) rfl rfl ?_; intro a hf
    refine rd hf rfl (yl_move rfl) rfl rfl ?_; intro a hf
    refine rd hf rfl (yl_lenE rfl Try.underlying58 hE.app) rfl rfl ?_; intro a hf
    refine rd hf rfl (yl_cmp rfl rfl rfl) rfl rfl ?_; intro a hf
    refine plan_nil ?_
    replace hf := hf.sel [10, 3, 0] (l' := [(10, _), (3, _), (0, _)]) rfl
    refine wp_ifd hf rfl (fun hlt => ?_) (fun hlt => ?_)
    · -- then
      have hltk : k < S.length := by omega
      have hj : S[k]? = some S[k] := List.getElem?_eq_getElem hltk
      refine wpIn_skip ?_
      refine wpIn_seq ?_
      refine wpIn_block ?_
      refine wpIn_seq ?_
      -- region 6 (ref.go:250)
      refine wp_reg ([]) ([] ++ rs) [(0, true), (1, true), (2, true), (3, true), (4, false), (5, true), (6, true), (7, true), (8, true), (9, true), (10, true), (11, true), (12, true), (13, true), (14, true), (15, true), (16, true), (17, true), (18, true), (19, true), (20, true), (21, true), (22, true), (23, true), (24, true)] mixed (by kernel_rfl) (hT) ?_; intro w hT
      refine rd hf rfl (yl_move rfl) rfl rfl ?_; intro a hf
      refine rd hf rfl (yl_move rfl) rfl rfl ?_; intro a hf
      refine rd hf rfl (yl_indexE rfl rfl Try.underlying58 sz_65 hE.app (by omega) (by omega)) rfl rfl ?_; intro a hf
      refine rd hf rfl (yl_loadA Try.underlying65 rfl sz_65 rfl (hE.app.row hj) rfl) rfl rfl ?_; intro a hf
      refine ef_call hf rfl (wanted_none _ _ rfl) rfl rfl (by kernel_rfl) (Spec.frame (L2 := []) (rValid_spec S[k] hT)) rfl (l' := [(16, _), (15, _), (14, _), (13, _), (10, _), (3, _), (0, _)]) rfl ?_; rintro a w v L ⟨L1, ⟨rfl, rfl⟩, rfl⟩ hf hT
      refine rd hf rfl (yl_not rfl) rfl rfl ?_; intro a hf
      refine rd hf rfl (yl_move rfl) rfl rfl ?_; intro a hf
      by_cases hg6 : (!decide S[k].Ok) = true
      · have hgT1 : (!decide S[k].Ok) = true := by simpa using hg6
        have hnk : ¬ S[k].Ok := by simpa using hg6
        have hbad := SetOk.not hltk (fun h => hnk h.1)
        refine rdF hf rfl rfl rfl rfl (by first | exact hgT1 | simp [hgT1]) rfl (l' := [(20, _), (19, _), (18, _), (17, _), (16, _), (15, _), (14, _), (13, _), (10, _), (3, _), (0, _)]) rfl ?_; intro a hf
        refine rdF hf rfl rfl rfl rfl (by first | exact hgT1 | simp [hgT1]) rfl (l' := [(21, _), (20, _), (19, _), (18, _), (17, _), (16, _), (15, _), (14, _), (13, _), (10, _), (3, _), (0, _)]) rfl ?_; intro a hf
        refine rdF hf rfl rfl rfl rfl (by first | exact hgT1 | simp [hgT1]) rfl (l' := [(22, _), (21, _), (20, _), (19, _), (18, _), (17, _), (16, _), (15, _), (14, _), (13, _), (10, _), (3, _), (0, _)]) rfl ?_; intro a hf
        refine rdU hf rfl rfl rfl rfl rfl (l' := [(23, _), (22, _), (21, _), (20, _), (19, _), (18, _), (17, _), (16, _), (15, _), (14, _), (13, _), (10, _), (3, _), (0, _)]) rfl ?_; intro a hf
        refine rdU hf rfl rfl rfl rfl rfl (l' := [(24, _), (23, _), (22, _), (21, _), (20, _), (19, _), (18, _), (17, _), (16, _), (15, _), (14, _), (13, _), (10, _), (3, _), (0, _)]) rfl ?_; intro a hf
        refine rdU hf rfl rfl rfl rfl rfl (l' := [(25, _), (24, _), (23, _), (22, _), (21, _), (20, _), (19, _), (18, _), (17, _), (16, _), (15, _), (14, _), (13, _), (10, _), (3, _), (0, _)]) rfl ?_; intro a hf
        refine rdU hf rfl rfl rfl rfl rfl (l' := [(26, _), (25, _), (24, _), (23, _), (22, _), (21, _), (20, _), (19, _), (18, _), (17, _), (16, _), (15, _), (14, _), (13, _), (10, _), (3, _), (0, _)]) rfl ?_; intro a hf
        refine rdU hf rfl rfl rfl rfl rfl (l' := [(27, _), (26, _), (25, _), (24, _), (23, _), (22, _), (21, _), (20, _), (19, _), (18, _), (17, _), (16, _), (15, _), (14, _), (13, _), (10, _), (3, _), (0, _)]) rfl ?_; intro a hf
        refine rdU hf rfl rfl rfl rfl rfl (l' := [(28, _), (27, _), (26, _), (25, _), (24, _), (23, _), (22, _), (21, _), (20, _), (19, _), (18, _), (17, _), (16, _), (15, _), (14, _), (13, _), (10, _), (3, _), (0, _)]) rfl ?_; intro a hf
        refine rdU hf rfl rfl rfl rfl rfl (l' := [(29, _), (28, _), (27, _), (26, _), (25, _), (24, _), (23, _), (22, _), (21, _), (20, _), (19, _), (18, _), (17, _), (16, _), (15, _), (14, _), (13, _), (10, _), (3, _), (0, _)]) rfl ?_; intro a hf
        refine rdU hf rfl rfl rfl rfl rfl (l' := [(30, _), (29, _), (28, _), (27, _), (26, _), (25, _), (24, _), (23, _), (22, _), (21, _), (20, _), (19, _), (18, _), (17, _), (16, _), (15, _), (14, _), (13, _), (10, _), (3, _), (0, _)]) rfl ?_; intro a hf
        refine rdU hf rfl rfl rfl rfl rfl (l' := [(31, _), (30, _), (29, _), (28, _), (27, _), (26, _), (25, _), (24, _), (23, _), (22, _), (21, _), (20, _), (19, _), (18, _), (17, _), (16, _), (15, _), (14, _), (13, _), (10, _), (3, _), (0, _)]) rfl ?_; intro a hf
        refine rdU hf rfl rfl rfl rfl rfl (l' := [(32, _), (31, _), (30, _), (29, _), (28, _), (27, _), (26, _), (25, _), (24, _), (23, _), (22, _), (21, _), (20, _), (19, _), (18, _), (17, _), (16, _), (15, _), (14, _), (13, _), (10, _), (3, _), (0, _)]) rfl ?_; intro a hf
        refine rdU hf rfl rfl rfl rfl rfl (l' := [(33, _), (32, _), (31, _), (30, _), (29, _), (28, _), (27, _), (26, _), (25, _), (24, _), (23, _), (22, _), (21, _), (20, _), (19, _), (18, _), (17, _), (16, _), (15, _), (14, _), (13, _), (10, _), (3, _), (0, _)]) rfl ?_; intro a hf
        refine rdU hf rfl rfl rfl rfl rfl (l' := [(34, _), (33, _), (32, _), (31, _), (30, _), (29, _), (28, _), (27, _), (26, _), (25, _), (24, _), (23, _), (22, _), (21, _), (20, _), (19, _), (18, _), (17, _), (16, _), (15, _), (14, _), (13, _), (10, _), (3, _), (0, _)]) rfl ?_; intro a hf
        refine rdU hf rfl rfl rfl rfl rfl (l' := [(35, _), (34, _), (33, _), (32, _), (31, _), (30, _), (29, _), (28, _), (27, _), (26, _), (25, _), (24, _), (23, _), (22, _), (21, _), (20, _), (19, _), (18, _), (17, _), (16, _), (15, _), (14, _), (13, _), (10, _), (3, _), (0, _)]) rfl ?_; intro a hf
        refine rdF hf rfl rfl rfl rfl (by first | exact hgT1 | simp [hgT1]) rfl (l' := [(36, _), (35, _), (34, _), (33, _), (32, _), (31, _), (30, _), (29, _), (28, _), (27, _), (26, _), (25, _), (24, _), (23, _), (22, _), (21, _), (20, _), (19, _), (18, _), (17, _), (16, _), (15, _), (14, _), (13, _), (10, _), (3, _), (0, _)]) rfl ?_; intro a hf
        refine rd hf rfl (yl_pickTT rfl hgT1 rfl) rfl rfl ?_; intro a hf
        refine plan_nil ?_
        replace hf := hf.sel [37, 3, 0] (l' := [(37, _), (3, _), (0, _)]) rfl
        refine wp_ifTT hf rfl (rfl) ?_
        refine wpIn_seq ?_
        -- region 7 (ref.go:251)
        refine wp_reg ([]) ([] ++ rs) [(0, true)] mixed (by kernel_rfl) (hT) ?_; intro w hT
        refine rd hf rfl (yl_assign rfl) rfl rfl ?_; intro a hf
        refine plan_nil ?_
        replace hf := hf.sel [2] (l' := [(2, _)]) rfl
        refine wpIn_ret ?_
        exact body_ret hf (L := []) hT rfl rfl ⟨by rw [setE_bad hm hbad]; rfl, rfl⟩
      · have hgT1 : (!decide S[k].Ok) = false := by simpa using hg6
        have hok : S[k].Ok := by simpa using hg6
        have hok2 := hok
        unfold Sp.Ok at hok2
        refine rdT hf rfl rfl rfl rfl (by first | exact hgT1 | simp [hgT1]) (yl_move rfl) rfl (l' := [(20, _), (19, _), (18, _), (17, _), (16, _), (15, _), (14, _), (13, _), (10, _), (3, _), (0, _)]) rfl ?_; intro a hf
        refine rdT hf rfl rfl rfl rfl (by first | exact hgT1 | simp [hgT1]) (yl_cmp rfl rfl rfl) rfl (l' := [(21, _), (20, _), (19, _), (18, _), (17, _), (16, _), (15, _), (14, _), (13, _), (10, _), (3, _), (0, _)]) rfl ?_; intro a hf
        refine rdT hf rfl rfl rfl rfl (by first | exact hgT1 | simp [hgT1]) (yl_move rfl) rfl (l' := [(22, _), (21, _), (20, _), (19, _), (18, _), (17, _), (16, _), (15, _), (14, _), (13, _), (10, _), (3, _), (0, _)]) rfl ?_; intro a hf
        by_cases hg9 : (0 : Int) < (k : Nat)
        · have hgT2 : decide ((0 : Int) < (k : Nat)) = true := by simpa using hg9
          have hjp : S[(((k : Nat) : Int) - 1).toNat]? = some (S[k - 1]'(by omega)) := by rw [show (((k : Nat) : Int) - 1).toNat = k - 1 by omega]; exact List.getElem?_eq_getElem _
          have hpo := (ho (k - 1) (by omega) (by omega)).1
          unfold Sp.Ok at hpo
          refine rdT hf rfl rfl rfl rfl (by first | exact hgT2 | simp [hgT2]) (yl_move rfl) rfl (l' := [(23, _), (22, _), (21, _), (20, _), (19, _), (18, _), (17, _), (16, _), (15, _), (14, _), (13, _), (10, _), (3, _), (0, _)]) rfl ?_; intro a hf
          refine rdT hf rfl rfl rfl rfl (by first | exact hgT2 | simp [hgT2]) (yl_move rfl) rfl (l' := [(24, _), (23, _), (22, _), (21, _), (20, _), (19, _), (18, _), (17, _), (16, _), (15, _), (14, _), (13, _), (10, _), (3, _), (0, _)]) rfl ?_; intro a hf
          refine rdT hf rfl rfl rfl rfl (by first | exact hgT2 | simp [hgT2]) (yl_indexE rfl rfl Try.underlying58 sz_65 hE.app (by omega) (by omega)) rfl (l' := [(25, _), (24, _), (23, _), (22, _), (21, _), (20, _), (19, _), (18, _), (17, _), (16, _), (15, _), (14, _), (13, _), (10, _), (3, _), (0, _)]) rfl ?_; intro a hf
          refine rdT hf rfl rfl rfl rfl (by first | exact hgT2 | simp [hgT2]) (yl_faddr Try.underlying65 rfl rfl sz_2 rfl) rfl (l' := [(26, _), (25, _), (24, _), (23, _), (22, _), (21, _), (20, _), (19, _), (18, _), (17, _), (16, _), (15, _), (14, _), (13, _), (10, _), (3, _), (0, _)]) rfl ?_; intro a hf
          refine rdT hf rfl rfl rfl rfl (by first | exact hgT2 | simp [hgT2]) (yl_load Try.underlying2 rfl rfl (hE.app.cell hj (f := 0) rfl)) rfl (l' := [(27, _), (26, _), (25, _), (24, _), (23, _), (22, _), (21, _), (20, _), (19, _), (18, _), (17, _), (16, _), (15, _), (14, _), (13, _), (10, _), (3, _), (0, _)]) rfl ?_; intro a hf
          refine rdT hf rfl rfl rfl rfl (by first | exact hgT2 | simp [hgT2]) (yl_move rfl) rfl (l' := [(28, _), (27, _), (26, _), (25, _), (24, _), (23, _), (22, _), (21, _), (20, _), (19, _), (18, _), (17, _), (16, _), (15, _), (14, _), (13, _), (10, _), (3, _), (0, _)]) rfl ?_; intro a hf
          refine rdT hf rfl rfl rfl rfl (by first | exact hgT2 | simp [hgT2]) (yl_move rfl) rfl (l' := [(29, _), (28, _), (27, _), (26, _), (25, _), (24, _), (23, _), (22, _), (21, _), (20, _), (19, _), (18, _), (17, _), (16, _), (15, _), (14, _), (13, _), (10, _), (3, _), (0, _)]) rfl ?_; intro a hf
          refine rdT hf rfl rfl rfl rfl (by first | exact hgT2 | simp [hgT2]) (yl_sub rfl rfl (by unfold inI64; omega)) rfl (l' := [(30, _), (29, _), (28, _), (27, _), (26, _), (25, _), (24, _), (23, _), (22, _), (21, _), (20, _), (19, _), (18, _), (17, _), (16, _), (15, _), (14, _), (13, _), (10, _), (3, _), (0, _)]) rfl ?_; intro a hf
          refine rdT hf rfl rfl rfl rfl (by first | exact hgT2 | simp [hgT2]) (yl_indexE rfl rfl Try.underlying58 sz_65 hE.app (by omega) (by omega)) rfl (l' := [(31, _), (30, _), (29, _), (28, _), (27, _), (26, _), (25, _), (24, _), (23, _), (22, _), (21, _), (20, _), (19, _), (18, _), (17, _), (16, _), (15, _), (14, _), (13, _), (10, _), (3, _), (0, _)]) rfl ?_; intro a hf
          refine rdT hf rfl rfl rfl rfl (by first | exact hgT2 | simp [hgT2]) (yl_faddr Try.underlying65 rfl rfl sz_2 rfl) rfl (l' := [(32, _), (31, _), (30, _), (29, _), (28, _), (27, _), (26, _), (25, _), (24, _), (23, _), (22, _), (21, _), (20, _), (19, _), (18, _), (17, _), (16, _), (15, _), (14, _), (13, _), (10, _), (3, _), (0, _)]) rfl ?_; intro a hf
          refine rdT hf rfl rfl rfl rfl (by first | exact hgT2 | simp [hgT2]) (yl_load Try.underlying2 rfl rfl (hE.app.cell hjp (f := 1) rfl)) rfl (l' := [(33, _), (32, _), (31, _), (30, _), (29, _), (28, _), (27, _), (26, _), (25, _), (24, _), (23, _), (22, _), (21, _), (20, _), (19, _), (18, _), (17, _), (16, _), (15, _), (14, _), (13, _), (10, _), (3, _), (0, _)]) rfl ?_; intro a hf
          refine rdT hf rfl rfl rfl rfl (by first | exact hgT2 | simp [hgT2]) (yl_add rfl rfl (by unfold inI64; omega)) rfl (l' := [(34, _), (33, _), (32, _), (31, _), (30, _), (29, _), (28, _), (27, _), (26, _), (25, _), (24, _), (23, _), (22, _), (21, _), (20, _), (19, _), (18, _), (17, _), (16, _), (15, _), (14, _), (13, _), (10, _), (3, _), (0, _)]) rfl ?_; intro a hf
          refine rdT hf rfl rfl rfl rfl (by first | exact hgT2 | simp [hgT2]) (yl_cmp rfl rfl rfl) rfl (l' := [(35, _), (34, _), (33, _), (32, _), (31, _), (30, _), (29, _), (28, _), (27, _), (26, _), (25, _), (24, _), (23, _), (22, _), (21, _), (20, _), (19, _), (18, _), (17, _), (16, _), (15, _), (14, _), (13, _), (10, _), (3, _), (0, _)]) rfl ?_; intro a hf
          refine rdT hf rfl rfl rfl rfl (by first | exact hgT1 | simp [hgT1]) (yl_pickTT rfl hgT2 rfl) rfl (l' := [(36, _), (35, _), (34, _), (33, _), (32, _), (31, _), (30, _), (29, _), (28, _), (27, _), (26, _), (25, _), (24, _), (23, _), (22, _), (21, _), (20, _), (19, _), (18, _), (17, _), (16, _), (15, _), (14, _), (13, _), (10, _), (3, _), (0, _)]) rfl ?_; intro a hf
          refine rd hf rfl (yl_pickFF rfl hgT1 rfl) rfl rfl ?_; intro a hf
          refine plan_nil ?_
          replace hf := hf.sel [37, 3, 0] (l' := [(37, _), (3, _), (0, _)]) rfl
          refine wp_ifd hf rfl (fun hlast => ?_) (fun hlast => ?_)
          · -- then
            have hbad := SetOk.not hltk (fun h => by have h1 := h.2 (by omega); omega)
            refine wpIn_seq ?_
            -- region 7 (ref.go:251)
            refine wp_reg ([]) ([] ++ rs) [(0, true)] mixed (by kernel_rfl) (hT) ?_; intro w hT
            refine rd hf rfl (yl_assign rfl) rfl rfl ?_; intro a hf
            refine plan_nil ?_
            replace hf := hf.sel [2] (l' := [(2, _)]) rfl
            refine wpIn_ret ?_
            exact body_ret hf (L := []) hT rfl rfl ⟨by rw [setE_bad hm hbad]; rfl, rfl⟩
          · -- else
            refine wpIn_skip ?_
            -- region 5 (ref.go:249)
            refine wp_reg ([]) ([] ++ rs) [(0, true), (1, true), (2, true)] mixed (by kernel_rfl) (hT) ?_; intro w hT
            refine rd hf rfl (yl_move rfl) rfl rfl ?_; intro a hf
            refine rd hf rfl (yl_add rfl rfl (by unfold inI64; omega)) rfl rfl ?_; intro a hf
            refine rw_ hf rfl (yl_assign rfl) rfl (l' := [(3, _), (12, _), (11, _), (37, _), (0, _)]) rfl ?_; intro a hf
            refine plan_nil ?_
            replace hf := hf.sel [3, 0] (l' := [(3, _), (0, _)]) rfl
            exact ⟨k + 1, _, hf.sel [3, 0] rfl, ⟨rfl, by omega, ho.step hltk hok (fun h0 => by omega)⟩, hT, by first | omega | (dsimp only; omega)⟩
        · have hgT2 : decide ((0 : Int) < (k : Nat)) = false := by simpa using hg9
          refine rdF hf rfl rfl rfl rfl (by first | exact hgT2 | simp [hgT2]) rfl (l' := [(23, _), (22, _), (21, _), (20, _), (19, _), (18, _), (17, _), (16, _), (15, _), (14, _), (13, _), (10, _), (3, _), (0, _)]) rfl ?_; intro a hf
          refine rdF hf rfl rfl rfl rfl (by first | exact hgT2 | simp [hgT2]) rfl (l' := [(24, _), (23, _), (22, _), (21, _), (20, _), (19, _), (18, _), (17, _), (16, _), (15, _), (14, _), (13, _), (10, _), (3, _), (0, _)]) rfl ?_; intro a hf
          refine rdF hf rfl rfl rfl rfl (by first | exact hgT2 | simp [hgT2]) rfl (l' := [(25, _), (24, _), (23, _), (22, _), (21, _), (20, _), (19, _), (18, _), (17, _), (16, _), (15, _), (14, _), (13, _), (10, _), (3, _), (0, _)]) rfl ?_; intro a hf
          refine rdF hf rfl rfl rfl rfl (by first | exact hgT2 | simp [hgT2]) rfl (l' := [(26, _), (25, _), (24, _), (23, _), (22, _), (21, _), (20, _), (19, _), (18, _), (17, _), (16, _), (15, _), (14, _), (13, _), (10, _), (3, _), (0, _)]) rfl ?_; intro a hf
          refine rdF hf rfl rfl rfl rfl (by first | exact hgT2 | simp [hgT2]) rfl (l' := [(27, _), (26, _), (25, _), (24, _), (23, _), (22, _), (21, _), (20, _), (19, _), (18, _), (17, _), (16, _), (15, _), (14, _), (13, _), (10, _), (3, _), (0, _)]) rfl ?_; intro a hf
          refine rdF hf rfl rfl rfl rfl (by first | exact hgT2 | simp [hgT2]) rfl (l' := [(28, _), (27, _), (26, _), (25, _), (24, _), (23, _), (22, _), (21, _), (20, _), (19, _), (18, _), (17, _), (16, _), (15, _), (14, _), (13, _), (10, _), (3, _), (0, _)]) rfl ?_; intro a hf
          refine rdF hf rfl rfl rfl rfl (by first | exact hgT2 | simp [hgT2]) rfl (l' := [(29, _), (28, _), (27, _), (26, _), (25, _), (24, _), (23, _), (22, _), (21, _), (20, _), (19, _), (18, _), (17, _), (16, _), (15, _), (14, _), (13, _), (10, _), (3, _), (0, _)]) rfl ?_; intro a hf
          refine rdF hf rfl rfl rfl rfl (by first | exact hgT2 | simp [hgT2]) rfl (l' := [(30, _), (29, _), (28, _), (27, _), (26, _), (25, _), (24, _), (23, _), (22, _), (21, _), (20, _), (19, _), (18, _), (17, _), (16, _), (15, _), (14, _), (13, _), (10, _), (3, _), (0, _)]) rfl ?_; intro a hf
          refine rdF hf rfl rfl rfl rfl (by first | exact hgT2 | simp [hgT2]) rfl (l' := [(31, _), (30, _), (29, _), (28, _), (27, _), (26, _), (25, _), (24, _), (23, _), (22, _), (21, _), (20, _), (19, _), (18, _), (17, _), (16, _), (15, _), (14, _), (13, _), (10, _), (3, _), (0, _)]) rfl ?_; intro a hf
          refine rdF hf rfl rfl rfl rfl (by first | exact hgT2 | simp [hgT2]) rfl (l' := [(32, _), (31, _), (30, _), (29, _), (28, _), (27, _), (26, _), (25, _), (24, _), (23, _), (22, _), (21, _), (20, _), (19, _), (18, _), (17, _), (16, _), (15, _), (14, _), (13, _), (10, _), (3, _), (0, _)]) rfl ?_; intro a hf
          refine rdF hf rfl rfl rfl rfl (by first | exact hgT2 | simp [hgT2]) rfl (l' := [(33, _), (32, _), (31, _), (30, _), (29, _), (28, _), (27, _), (26, _), (25, _), (24, _), (23, _), (22, _), (21, _), (20, _), (19, _), (18, _), (17, _), (16, _), (15, _), (14, _), (13, _), (10, _), (3, _), (0, _)]) rfl ?_; intro a hf
          refine rdF hf rfl rfl rfl rfl (by first | exact hgT2 | simp [hgT2]) rfl (l' := [(34, _), (33, _), (32, _), (31, _), (30, _), (29, _), (28, _), (27, _), (26, _), (25, _), (24, _), (23, _), (22, _), (21, _), (20, _), (19, _), (18, _), (17, _), (16, _), (15, _), (14, _), (13, _), (10, _), (3, _), (0, _)]) rfl ?_; intro a hf
          refine rdF hf rfl rfl rfl rfl (by first | exact hgT2 | simp [hgT2]) rfl (l' := [(35, _), (34, _), (33, _), (32, _), (31, _), (30, _), (29, _), (28, _), (27, _), (26, _), (25, _), (24, _), (23, _), (22, _), (21, _), (20, _), (19, _), (18, _), (17, _), (16, _), (15, _), (14, _), (13, _), (10, _), (3, _), (0, _)]) rfl ?_; intro a hf
          refine rdT hf rfl rfl rfl rfl (by first | exact hgT1 | simp [hgT1]) (yl_pickFF rfl hgT2 rfl) rfl (l' := [(36, _), (35, _), (34, _), (33, _), (32, _), (31, _), (30, _), (29, _), (28, _), (27, _), (26, _), (25, _), (24, _), (23, _), (22, _), (21, _), (20, _), (19, _), (18, _), (17, _), (16, _), (15, _), (14, _), (13, _), (10, _), (3, _), (0, _)]) rfl ?_; intro a hf
          refine rd hf rfl (yl_pickFF rfl hgT1 rfl) rfl rfl ?_; intro a hf
          refine plan_nil ?_
          replace hf := hf.sel [37, 3, 0] (l' := [(37, _), (3, _), (0, _)]) rfl
          refine wp_ifFF hf rfl (rfl) ?_
          refine wpIn_skip ?_
          -- region 5 (ref.go:249)
          refine wp_reg ([]) ([] ++ rs) [(0, true), (1, true), (2, true)] mixed (by kernel_rfl) (hT) ?_; intro w hT
          refine rd hf rfl (yl_move rfl) rfl rfl ?_; intro a hf
          refine rd hf rfl (yl_add rfl rfl (by unfold inI64; omega)) rfl rfl ?_; intro a hf
          refine rw_ hf rfl (yl_assign rfl) rfl (l' := [(3, _), (12, _), (11, _), (37, _), (0, _)]) rfl ?_; intro a hf
          refine plan_nil ?_
          replace hf := hf.sel [3, 0] (l' := [(3, _), (0, _)]) rfl
          exact ⟨k + 1, _, hf.sel [3, 0] rfl, ⟨rfl, by omega, ho.step hltk hok (fun h0 => by omega)⟩, hT, by first | omega | (dsimp only; omega)⟩
    · -- else
      obtain rfl : k = S.length := by omega
      refine wpIn_exit ?_
      refine then_exit ?_
      refine then_exit ?_
      refine inBlock_hit ?_
      refine wpIn_seq ?_
      -- region 8 (ref.go:254)
      refine wp_reg ([]) ([] ++ rs) [(0, true)] mixed (by kernel_rfl) (hT) ?_; intro w hT
      refine rd hf rfl (yl_assign rfl) rfl rfl ?_; intro a hf
      refine plan_nil ?_
      replace hf := hf.sel [2] (l' := [(2, _)]) rfl
      refine wpIn_ret ?_
      exact body_ret hf (L := []) hT rfl rfl ⟨by rw [setE_ok hm ho]; rfl, rfl⟩
theorem rIsIn_spec {e : Env} {w : World} {rs : List Part} (S : List Sp) (v0 : Value) (hE : Els encSp rs v0 S) (x : Int) (hT : Tot e w rs) : Spec Try.prog 64 #[v0, .int .i64 x] e w rs (fun v L => v = .bool (inS S x) ∧ L = []) := by
  refine spec_body Try.func64 rfl Try.ntmps64 rfl rfl ?_
  intro a hf
  refine wpIn_seq ?_
  -- region 0 (ref.go:258)
  refine wp_reg ([]) ([] ++ rs) [(0, true)] mixed (by kernel_rfl) (hT) ?_; intro w hT
  refine rd hf rfl (yl_assign rfl) rfl rfl ?_; intro a hf
  refine plan_nil ?_
  refine wpIn_seq ?_
  refine wpIn_seq ?_
  -- region 1 (ref.go:259)
  refine wp_reg ([]) ([] ++ rs) [(0, true)] mixed (by kernel_rfl) (hT) ?_; intro w hT
  refine rd hf rfl (yl_assign rfl) rfl rfl ?_; intro a hf
  refine plan_nil ?_
  refine wpIn_block ?_
  have hlen := hE.len_le
  refine wp_loopS (σ := Nat) (fun k => [(5, .int .i64 (k : Nat))]) [(0, _), (1, _)] (fun k L => L = [] ∧ k ≤ S.length ∧ ∀ j (h : j < S.length), j < k → ¬ (S[j].lo ≤ x ∧ x ≤ S[j].hi)) (fun k => S.length - k) 0 (L := []) (R := [] ++ rs) (hf.sel [5, 0, 1] rfl) (⟨rfl, Nat.zero_le _, fun j h hj => absurd hj (Nat.not_lt_zero _)⟩) hT ?_
  clear hf hT; rintro k a w L hf ⟨rfl, hk, ho⟩ hT
  replace hf : Fr _ [(5, .int .i64 (k : Nat)), (0, _), (1, _)] _ _ := hf
  refine wpIn_seq ?_
  refine wpIn_seq ?_
  -- region 2 (ref.go:259)
  refine wp_reg ([]) ([] ++ rs) [(0, true), (1, true), (2, true), (3, true)] mixed (by kernel_rfl) (hT) ?_; intro w hT
  refine rd hf rfl (yl_move rfl) rfl rfl ?_; intro a hf
  refine rd hf rfl (yl_move rfl) rfl rfl ?_; intro a hf
  refine rd hf rfl (yl_lenE rfl Try.underlying58 hE.app) rfl rfl ?_; intro a hf
  refine rd hf rfl (yl_cmp rfl rfl rfl) rfl rfl ?_; intro a hf
  refine plan_nil ?_
  replace hf := hf.sel [9, 5, 0, 1] (l' := [(9, _), (5, _), (0, _), (1, _)]) rfl
  refine wp_ifd hf rfl (fun hlt => ?_) (fun hlt => ?_)
  · -- then
    have hltk : k < S.length := by omega
    have hj : S[k]? = some S[k] := List.getElem?_eq_getElem hltk
    refine wpIn_skip ?_
    refine wpIn_seq ?_
    refine wpIn_block ?_
    refine wpIn_seq ?_
    -- region 4 (ref.go:260)
    refine wp_reg ([]) ([] ++ rs) [(0, true), (1, true), (2, true), (3, true), (4, true), (5, true), (6, true), (7, true), (8, true), (9, true), (10, true), (11, false)] mixed (by kernel_rfl) (hT) ?_; intro w hT
    refine rd hf rfl (yl_move rfl) rfl rfl ?_; intro a hf
    refine rd hf rfl (yl_move rfl) rfl rfl ?_; intro a hf
    refine rd hf rfl (yl_move rfl) rfl rfl ?_; intro a hf
    refine rd hf rfl (yl_indexE rfl rfl Try.underlying58 sz_65 hE.app (by omega) (by omega)) rfl rfl ?_; intro a hf
    refine rd hf rfl (yl_faddr Try.underlying65 rfl rfl sz_2 rfl) rfl rfl ?_; intro a hf
    refine rd hf rfl (yl_load Try.underlying2 rfl rfl (hE.app.cell hj (f := 0) rfl)) rfl rfl ?_; intro a hf
    refine rd hf rfl (yl_move rfl) rfl rfl ?_; intro a hf
    refine rd hf rfl (yl_move rfl) rfl rfl ?_; intro a hf
    refine rd hf rfl (yl_indexE rfl rfl Try.underlying58 sz_65 hE.app (by omega) (by omega)) rfl rfl ?_; intro a hf
    refine rd hf rfl (yl_faddr Try.underlying65 rfl rfl sz_2 rfl) rfl rfl ?_; intro a hf
    refine rd hf rfl (yl_load Try.underlying2 rfl rfl (hE.app.cell hj (f := 1) rfl)) rfl rfl ?_; intro a hf
    refine ef_call hf rfl (wanted_none _ _ rfl) rfl rfl (by kernel_rfl) (Spec.frame (L2 := []) (rWithin_spec _ _ _ hT)) rfl (l' := [(22, _), (21, _), (20, _), (19, _), (18, _), (17, _), (16, _), (15, _), (14, _), (13, _), (12, _), (9, _), (5, _), (0, _), (1, _)]) rfl ?_; rintro a w v L ⟨L1, ⟨rfl, rfl⟩, rfl⟩ hf hT
    refine plan_nil ?_
    replace hf := hf.sel [23, 5, 0, 1] (l' := [(23, _), (5, _), (0, _), (1, _)]) rfl
    refine wp_ifd hf rfl (fun hin => ?_) (fun hin => ?_)
    · -- then
      refine wpIn_seq ?_
      -- region 5 (ref.go:261)
      refine wp_reg ([]) ([] ++ rs) [(0, true)] mixed (by kernel_rfl) (hT) ?_; intro w hT
      refine rd hf rfl (yl_assign rfl) rfl rfl ?_; intro a hf
      refine plan_nil ?_
      replace hf := hf.sel [4] (l' := [(4, _)]) rfl
      refine wpIn_ret ?_
      exact body_ret hf (L := []) hT rfl rfl ⟨by rw [inS_at hltk hin]; rfl, rfl⟩
    · -- else
      refine wpIn_skip ?_
      -- region 3 (ref.go:259)
      refine wp_reg ([]) ([] ++ rs) [(0, true), (1, true), (2, true)] mixed (by kernel_rfl) (hT) ?_; intro w hT
      refine rd hf rfl (yl_move rfl) rfl rfl ?_; intro a hf
      refine rd hf rfl (yl_add rfl rfl (by unfold inI64; omega)) rfl rfl ?_; intro a hf
      refine rw_ hf rfl (yl_assign rfl) rfl (l' := [(5, _), (11, _), (10, _), (23, _), (0, _), (1, _)]) rfl ?_; intro a hf
      refine plan_nil ?_
      replace hf := hf.sel [5, 0, 1] (l' := [(5, _), (0, _), (1, _)]) rfl
      exact ⟨k + 1, _, hf.sel [5, 0, 1] rfl, ⟨rfl, by omega, fun j h hj => by by_cases hjk : j = k; subst hjk; exact hin; exact ho j h (by omega)⟩, hT, by first | omega | (dsimp only; omega)⟩
  · -- else
    obtain rfl : k = S.length := by omega
    refine wpIn_exit ?_
    refine then_exit ?_
    refine then_exit ?_
    refine inBlock_hit ?_
    refine wpIn_seq ?_
    -- region 6 (ref.go:264)
    refine wp_reg ([]) ([] ++ rs) [(0, true)] mixed (by kernel_rfl) (hT) ?_; intro w hT
    refine rd hf rfl (yl_assign rfl) rfl rfl ?_; intro a hf
    refine plan_nil ?_
    replace hf := hf.sel [4] (l' := [(4, _)]) rfl
    refine wpIn_ret ?_
    exact body_ret hf (L := []) hT rfl rfl ⟨by rw [inS_none (fun j hj => ho j hj hj)]; rfl, rfl⟩
end Go.Proofs.Ytjhbgciocffihaa
