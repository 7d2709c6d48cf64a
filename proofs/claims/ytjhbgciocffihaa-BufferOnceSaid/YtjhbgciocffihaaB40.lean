-- written by gen.py out of walks texts of my own
import Derived.Test.YtjhbgciocffihaaB30
set_option linter.unusedVariables false
set_option linter.unusedSimpArgs false
set_option maxHeartbeats 4000000
namespace Go.Proofs.Ytjhbgciocffihaa
def cntS : List Sp → Int
  | [] => 0
  | p :: S => (p.hi - p.lo + 1) + cntS S
theorem cntS_app (S T : List Sp) : cntS (S ++ T) = cntS S + cntS T := by
  induction S with
  | nil => show _ = 0 + _; rw [Int.zero_add]; rfl
  | cons p S ih => show _ + cntS (S ++ T) = _ + cntS S + _; rw [ih]; omega
theorem inS_app (S T : List Sp) (y : Int) : inS (S ++ T) y = (inS S y || inS T y) := by simp [inS, List.any_append]
theorem inS_one (p : Sp) (y : Int) : inS [p] y = decide (p.lo ≤ y ∧ y ≤ p.hi) := by simp [inS]
theorem runStep_all {s : List Sp} (h : ∀ p ∈ s, p.lo ≤ p.hi) (x : Int) : (∀ p ∈ runStep s x, p.lo ≤ p.hi) ∧ cntS (runStep s x) = cntS s + 1 ∧ ∀ y, inS (runStep s x) y = (inS s y || decide (y = x)) := by
  have h0 : (∀ p ∈ s ++ [(⟨x, x⟩ : Sp)], p.lo ≤ p.hi) ∧ cntS (s ++ [(⟨x, x⟩ : Sp)]) = cntS s + 1 ∧ ∀ y, inS (s ++ [(⟨x, x⟩ : Sp)]) y = (inS s y || decide (y = x)) := by
    refine ⟨fun p hp => ?_, ?_, fun y => ?_⟩
    · rcases List.mem_append.1 hp with hp | hp
      · exact h p hp
      · simp at hp; subst hp; exact Int.le_refl _
    · rw [cntS_app]; show _ + ((x - x + 1) + 0) = _; omega
    · rw [inS_app, inS_one]; congr 1; apply decide_eq_decide.2; simp only; omega
  unfold runStep
  cases hl : s.getLast? with
  | none => exact h0
  | some l =>
    have he := snoc_last hl
    generalize s.dropLast = ini at he
    subst he
    simp only
    split
    · rename_i hq
      rw [set_snoc]
      have hll := h l (by simp)
      refine ⟨fun p hp => ?_, ?_, fun y => ?_⟩
      · rcases List.mem_append.1 hp with hp | hp
        · exact h p (by simp [hp])
        · simp at hp; subst hp; simp only; omega
      · rw [cntS_app, cntS_app]; show _ + ((x - l.lo + 1) + 0) = _ + ((l.hi - l.lo + 1) + 0) + 1; omega
      · rw [inS_app, inS_app, inS_one, inS_one, Bool.or_assoc]
        congr 1
        rw [← Bool.decide_or]
        apply decide_eq_decide.2
        simp only; omega
    · exact h0
theorem runs_all : ∀ (ids : List Int) (s : List Sp), (∀ p ∈ s, p.lo ≤ p.hi) → cntS (ids.foldl runStep s) = cntS s + (ids.length : Int) ∧ ∀ y, inS (ids.foldl runStep s) y = (inS s y || decide (y ∈ ids))
  | [], s, _ => ⟨by simp, fun y => by simp⟩
  | x :: ids, s, h => by
    obtain ⟨h1, h2, h3⟩ := runStep_all h x
    obtain ⟨h4, h5⟩ := runs_all ids (runStep s x) h1
    refine ⟨by show cntS (ids.foldl runStep (runStep s x)) = _; rw [h4, h2, List.length_cons]; omega, fun y => ?_⟩
    show inS (ids.foldl runStep (runStep s x)) y = _
    rw [h5, h3, Bool.or_assoc]
    congr 1
    rw [← Bool.decide_or]
    apply decide_eq_decide.2
    rw [List.mem_cons]
theorem runs_cnt (ids : List Int) : cntS (runs ids) = (ids.length : Int) := by
  have := (runs_all ids [] (by simp)).1
  unfold runs; rw [this]; show 0 + _ = _; omega
theorem runs_in (ids : List Int) (y : Int) : inS (runs ids) y = decide (y ∈ ids) := by
  have := (runs_all ids [] (by simp)).2 y
  unfold runs; rw [this]; simp [inS]
theorem runs_setE {ids : List Int} (hs : ids.Pairwise (· < ·)) (hr : ∀ x ∈ ids, 0 ≤ x ∧ x ≤ 1073741824) (hl : ids.length ≤ 256) : setE (runs ids) = 0 := by
  have h1 := runs_len ids
  have hro := runs_ro ids hs (-1) (fun x hx => by have := hr x hx; omega) ids.length (Nat.le_refl _)
  rw [List.take_length] at hro
  have hm := runs_mem ids ids (fun x hx => hx)
  refine setE_ok (by omega) fun i hi _ => ⟨?_, fun h0 => ?_⟩
  · have h2 := hm _ (List.getElem_mem hi)
    have h3 := hro.wf _ (List.getElem_mem hi)
    have h4 := hr _ h2.1
    have h5 := hr _ h2.2
    exact ⟨h3.1, by omega, h5.2⟩
  · have h2 := List.pairwise_iff_getElem.1 hro.gap (i - 1) i (by omega) hi (by omega)
    omega
theorem CheckSet_spec0 {e : Env} {w : World} {rs : List Part} (S : List Sp) (v0 : Value) (hE : Els encSp rs v0 S) (h0 : setE S = 0) (hT : Tot e w rs) : Spec Try.prog 42 #[v0] e w rs (fun v L => v = .int .i64 0 ∧ L = []) :=
  (CheckSet_spec S v0 hE hT).mono fun v L h => by rw [h0] at h; exact h
theorem cnt_rng {S : List Sp} (hok : ∀ p ∈ S, p.Ok) : ∀ k, k ≤ S.length → 0 ≤ cntS (S.take k) ∧ cntS (S.take k) ≤ 2147483649 * (k : Int)
  | 0, _ => by show (0 : Int) ≤ 0 ∧ (0 : Int) ≤ 2147483649 * ((0 : Nat) : Int); omega
  | k + 1, hk => by
    have h1 := cnt_rng hok k (by omega)
    have h2 := hok _ (List.getElem_mem (show k < S.length by omega))
    unfold Sp.Ok at h2
    rw [List.take_succ_eq_append_getElem (by omega), cntS_app]
    have h3 : cntS [S[k]'(by omega)] = ((S[k]'(by omega)).hi - (S[k]'(by omega)).lo + 1) + 0 := rfl
    omega
theorem setE_all {S : List Sp} (h : setE S = 0) : S.length ≤ 256 ∧ ∀ p ∈ S, p.Ok := by
  by_cases h1 : 256 < S.length
  · rw [setE_many h1] at h; cases h
  · refine ⟨by omega, fun p hp => ?_⟩
    by_cases h2 : SetOk S
    · obtain ⟨i, hi, rfl⟩ := List.getElem_of_mem hp
      exact (h2 i hi hi).1
    · rw [setE_bad h1 h2] at h; cases h
theorem Count_spec0 {e : Env} {w : World} {rs : List Part} (S : List Sp) (v0 : Value) (hE : Els encSp rs v0 S) (h0 : setE S = 0) (hT : Tot e w rs) : Spec Try.prog 41 #[v0] e w rs (fun v L => v = .tuple #[.int .i64 (cntS S), .int .i64 0] ∧ L = []) := by
  refine spec_body Try.func41 rfl Try.ntmps41 rfl rfl ?_
  intro a hf
  obtain ⟨hl256, hok⟩ := setE_all h0
  have hrg := cnt_rng hok
  refine wpIn_seq ?_
  -- region 0 (bound.go:390)
  refine wp_reg ([]) ([] ++ rs) [(0, true), (1, true)] mixed (by kernel_rfl) (hT) ?_; intro w hT
  refine rd hf rfl (yl_assign rfl) rfl rfl ?_; intro a hf
  refine rd hf rfl (yl_assign rfl) rfl rfl ?_; intro a hf
  refine plan_nil ?_
  refine wpIn_seq ?_
  refine wpIn_seq ?_
  -- region 1 (bound.go:391)
  refine wp_reg ([]) ([] ++ rs) [(0, true), (1, false), (2, true)] mixed (by kernel_rfl) (hT) ?_; intro w hT
  refine rd hf rfl (yl_move rfl) rfl rfl ?_; intro a hf
  refine ef_call hf rfl (wanted_none _ _ rfl) rfl rfl (by kernel_rfl) (Spec.frame (L2 := []) (CheckSet_spec0 S _ hE.app h0 hT)) rfl (l' := [(7, _), (3, _), (2, _), (0, _)]) rfl ?_; rintro a w v L ⟨L1, ⟨rfl, rfl⟩, rfl⟩ hf hT
  refine rd hf rfl (yl_assign rfl) rfl rfl ?_; intro a hf
  refine plan_nil ?_
  replace hf := hf.sel [4, 2, 0] (l' := [(4, _), (2, _), (0, _)]) rfl
  refine wpIn_seq ?_
  -- region 2 (bound.go:391)
  refine wp_reg ([]) ([] ++ rs) [(0, true), (1, true)] mixed (by kernel_rfl) (hT) ?_; intro w hT
  refine rd hf rfl (yl_move rfl) rfl rfl ?_; intro a hf
  refine rd hf rfl (yl_cmp rfl rfl rfl) rfl rfl ?_; intro a hf
  refine plan_nil ?_
  refine wp_ifFF hf rfl (rfl) ?_
  refine wpIn_skip ?_
  refine wpIn_seq ?_
  refine wpIn_seq ?_
  -- region 4 (bound.go:394)
  refine wp_reg ([]) ([] ++ rs) [(0, true), (1, true), (2, true)] mixed (by kernel_rfl) (hT) ?_; intro w hT
  refine rd hf rfl (yl_move rfl) rfl rfl ?_; intro a hf
  refine rd hf rfl (yl_lenE rfl Try.underlying58 hE.app) rfl rfl ?_; intro a hf
  refine rd hf rfl (yl_move rfl) rfl rfl ?_; intro a hf
  refine plan_nil ?_
  replace hf := hf.sel [14, 13, 12, 2] (l' := [(14, _), (13, _), (12, _), (2, _)]) rfl
  refine wpIn_block ?_
  have hlen0 := hE.len_le
  refine wp_loopS (σ := Nat) (fun k => [(14, .int .i64 (k : Nat)), (2, .int .i64 (cntS (S.take k)))]) [(13, _), (12, _)] (fun k L => L = [] ∧ k ≤ S.length) (fun k => S.length - k) 0 (L := []) (R := [] ++ rs) (hf.sel [14, 2, 13, 12] rfl) (⟨rfl, Nat.zero_le _⟩) hT ?_
  clear hf hT; rintro k a w L hf ⟨rfl, hk⟩ hT
  replace hf : Fr _ [(14, .int .i64 (k : Nat)), (2, .int .i64 (cntS (S.take k))), (13, _), (12, _)] _ _ := hf
  refine wpIn_seq ?_
  -- region 5 (bound.go:394)
  refine wp_reg ([]) ([] ++ rs) [(0, true)] mixed (by kernel_rfl) (hT) ?_; intro w hT
  refine rd hf rfl (yl_cmp rfl rfl rfl) rfl rfl ?_; intro a hf
  refine plan_nil ?_
  refine wpIn_seq ?_
  refine wp_ifd hf rfl (fun hlt => ?_) (fun hlt => ?_)
  · -- then
    have hltk : k < S.length := by omega
    obtain ⟨p, hpk⟩ : ∃ p, S[k] = p := ⟨_, rfl⟩
    have hj : S[k]? = some p := hpk ▸ List.getElem?_eq_getElem hltk
    have hpo : p.Ok := hpk ▸ (hok _ (List.getElem_mem hltk))
    unfold Sp.Ok at hpo
    have hcr := hrg k (by omega)
    have hsuc : cntS (S.take (k + 1)) = cntS (S.take k) + (p.hi - p.lo + 1) := by rw [List.take_succ_eq_append_getElem hltk, cntS_app, hpk]; show _ + ((p.hi - p.lo + 1) + 0) = _; omega
    refine wpIn_skip ?_
    refine wpIn_seq ?_
    refine wpIn_block ?_
    refine wpIn_seq ?_
    -- region 6 (bound.go:394)
    refine wp_reg ([]) ([] ++ rs) [(0, true), (1, true), (2, false), (3, false)] mixed (by kernel_rfl) (hT) ?_; intro w hT
    refine rd hf rfl (yl_indexE rfl rfl Try.underlying58 sz_65 hE.app (by omega) (by omega)) rfl rfl ?_; intro a hf
    refine rd hf rfl (yl_loadA Try.underlying65 rfl sz_65 rfl (hE.app.row hj) rfl) rfl rfl ?_; intro a hf
    refine ef hf hT rfl rfl (ef_alloc zr_65) rfl (l' := [(17, _), (16, _), (15, _), (14, _), (2, _), (13, _), (12, _)]) rfl ?_; rintro a w v L ⟨b1, rfl, rfl⟩ hf hT
    refine efS hf hT rfl rfl (ef_storeW rfl rfl sz_65 rfl rfl rfl) ?_; rintro w L rfl hT
    refine plan_nil ?_
    replace hf := hf.sel [6, 14, 2, 13, 12] (l' := [(6, _), (14, _), (2, _), (13, _), (12, _)]) rfl
    -- region 7 (bound.go:395)
    refine wp_reg ([]) ([_] ++ rs) [(0, true), (1, true), (2, true), (3, true), (4, true), (5, true), (6, true), (7, true), (8, true)] mixed (by kernel_rfl) (hT) ?_; intro w hT
    refine rd hf rfl (yl_move rfl) rfl rfl ?_; intro a hf
    refine rd hf rfl (yl_faddr Try.underlying65 rfl rfl sz_2 (k := 1) rfl) rfl rfl ?_; intro a hf
    refine rd hf rfl (yl_load Try.underlying2 rfl rfl ⟨_, .head _, _, _, _, pt_self _ _, rfl⟩) rfl rfl ?_; intro a hf
    refine rd hf rfl (yl_faddr Try.underlying65 rfl rfl sz_2 (k := 0) rfl) rfl rfl ?_; intro a hf
    refine rd hf rfl (yl_load Try.underlying2 rfl rfl ⟨_, .head _, _, _, _, pt_self _ _, rfl⟩) rfl rfl ?_; intro a hf
    refine rd hf rfl (yl_sub rfl rfl (by unfold inI64; omega)) rfl rfl ?_; intro a hf
    refine rd hf rfl (yl_add rfl rfl (by unfold inI64; omega)) rfl rfl ?_; intro a hf
    refine rd hf rfl (yl_add rfl rfl (by unfold inI64; omega)) rfl rfl ?_; intro a hf
    refine rw_ hf rfl (yl_assign rfl) rfl (l' := [(2, _), (25, _), (24, _), (23, _), (22, _), (21, _), (20, _), (19, _), (18, _), (6, _), (14, _), (13, _), (12, _)]) rfl ?_; intro a hf
    refine plan_nil ?_
    replace hf := hf.sel [2, 14, 13, 12] (l' := [(2, _), (14, _), (13, _), (12, _)]) rfl
    -- region 8 (bound.go:394)
    refine wp_reg ([]) ([_] ++ rs) [(0, true), (1, true)] mixed (by kernel_rfl) (hT) ?_; intro w hT
    refine rd hf rfl (yl_add rfl rfl (by unfold inI64; omega)) rfl rfl ?_; intro a hf
    refine rw_ hf rfl (yl_move rfl) rfl (l' := [(14, _), (26, _), (2, _), (13, _), (12, _)]) rfl ?_; intro a hf
    refine plan_nil ?_
    exact ⟨k + 1, _, (by have h := hf.sel [14, 2, 13, 12] (l' := [(14, _), (2, _), (13, _), (12, _)]) rfl; rw [hsuc]; exact h), ⟨rfl, by omega⟩, (hT.brings [0]).tail, by first | omega | (dsimp only; omega)⟩
  · -- else
    obtain rfl : k = S.length := by omega
    rw [List.take_length] at hf
    refine wpIn_exit ?_
    refine then_exit ?_
    refine then_exit ?_
    refine inBlock_hit ?_
    refine wpIn_seq ?_
    -- region 9 (bound.go:397)
    refine wp_reg ([]) ([] ++ rs) [(0, true), (1, true), (2, true)] mixed (by kernel_rfl) (hT) ?_; intro w hT
    refine rd hf rfl (yl_move rfl) rfl rfl ?_; intro a hf
    refine rw_ hf rfl (yl_assign rfl) rfl (l' := [(2, _), (27, _), (15, _), (14, _), (13, _), (12, _)]) rfl ?_; intro a hf
    refine rd hf rfl (yl_assign rfl) rfl rfl ?_; intro a hf
    refine plan_nil ?_
    replace hf := hf.sel [3, 2] (l' := [(3, _), (2, _)]) rfl
    refine wpIn_ret ?_
    exact body_ret hf (L := []) hT rfl rfl ⟨rfl, rfl⟩
end Go.Proofs.Ytjhbgciocffihaa
