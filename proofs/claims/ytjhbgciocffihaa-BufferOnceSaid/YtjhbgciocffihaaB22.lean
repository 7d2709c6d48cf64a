-- written by gen.py out of walks texts of my own
import Derived.Test.YtjhbgciocffihaaB21
import Derived.Test.YtjhbgciocffihaaK11
set_option linter.unusedVariables false
set_option linter.unusedSimpArgs false
set_option maxHeartbeats 4000000
namespace Go.Proofs.Ytjhbgciocffihaa
theorem mark_set {L : List Hld} (hn : (ids L).Nodup) {i : Nat} (hi : i < L.length) : mark L L[i].r.id = L.set i { L[i] with small := true } := by
  apply List.ext_getElem (by simp [mark])
  intro j h1 h2
  have hj : j < L.length := by simpa [mark] using h1
  simp only [mark, List.getElem_map, List.getElem_set]
  by_cases hij : i = j
  · subst hij; simp
  · rw [if_neg hij, if_neg]
    intro he
    apply hij
    have h3 : (ids L)[i]'(by simpa [ids] using hi) = (ids L)[j]'(by simpa [ids] using hj) := by simp [ids, he]
    have h4 := List.pairwise_iff_getElem.1 hn
    rcases Nat.lt_or_ge i j with h5 | h5
    · exact absurd h3 (h4 i j _ _ h5)
    · rcases Nat.lt_or_ge j i with h6 | h6
      · exact absurd h3.symm (h4 j i _ _ h6)
      · omega
theorem sq_cases (L : List Hld) : (lastSq L L.length = -1 ∧ squeeze L = none) ∨ ∃ i, ∃ hi : i < L.length, lastSq L L.length = (i : Nat) ∧ squeeze L = some L[i] := by
  rcases lastSq_spec L L.length (Nat.le_refl _) with ⟨h1, h2⟩ | ⟨i, hi, _, h1, h3, h4⟩
  · refine .inl ⟨h1, squeeze_none fun x hx => ?_⟩
    obtain ⟨j, hj, rfl⟩ := List.getElem_of_mem (List.mem_of_mem_take hx)
    rw [List.getElem_reverse]
    exact h2 _ (by simp at hj; omega) _
  · refine .inr ⟨i, hi, h1, ?_⟩
    have e : i = L.length - 1 - (L.length - 1 - i) := by omega
    have h5 := squeeze_at (L := L) (i := L.length - 1 - i) (by omega) (fun x hx => ?_) (by rw [show L[L.length - 1 - (L.length - 1 - i)]'(by omega) = L[i] by congr 1; omega]; exact h3)
    · rw [h5]; congr 2; omega
    · obtain ⟨j, hj, rfl⟩ := List.getElem_of_mem hx
      simp only [List.length_take, List.length_reverse] at hj
      rw [List.getElem_take, List.getElem_reverse]
      exact h4 _ (by omega) _ (by omega)
theorem ins_eq (L : List Hld) (r : Rec) {k : Nat} (hk : k = pos L r) : [] ++ (L.drop 0).take (k - 0) ++ [new r] ++ (L.drop k).take (L.length - k) = ins L r := by
  subst hk
  have h1 := pos_le L r
  rw [List.take_of_length_le (l := L.drop (pos L r)) (by simp), List.drop_zero, Nat.sub_zero, take_pos, drop_pos]
  simp [ins]
theorem mem2 {α : Type} {x a b : α} (h : x ∈ [a, b]) : x = a ∨ x = b := by simpa using h
theorem rPut_spec {e : Env} {w : World} {rs : List Part} (b : Nat) (s : BS) (Lb : List Part) (hB : RB b s.cap s.time s.L Lb) (hI : Inv s) (hlen : s.L.length ≤ 256) (r : Rec) (hT : Tot e w (Lb ++ rs)) : Spec Try.prog 24 #[.pointer (some ⟨b, 0, none⟩), encR r] e w rs (fun v L => ∃ s' d er q X Lb', v = .tuple #[q, .int .i64 er] ∧ Sl encI 2 q d X ∧ RB b s'.cap s'.time s'.L Lb' ∧ L = X :: Lb' ∧ PutRes s r s' d er) := by
  refine spec_body Try.func24 rfl Try.ntmps24 rfl rfl ?_
  intro a hf
  obtain ⟨lv, X, rfl, hS⟩ := hB
  obtain ⟨A0, c0, hv, hc0⟩ := hS.shape
  have hSv : Sl encHld 44 (.slice A0 s.L.length c0) s.L X := by rw [← hv]; exact hS
  refine wpIn_seq ?_
  -- region 0 (ref.go:80)
  refine wp_reg ([]) ([_, _] ++ rs) [(0, false), (1, true), (2, true)] mixed (by kernel_rfl) (hT) ?_; intro w hT
  refine ef hf hT rfl rfl (ef_box rfl) rfl (l' := [(0, _), (1, _)]) rfl ?_; rintro a w v L ⟨b1, rfl, rfl⟩ hf hT
  refine rd hf rfl (yl_assign rfl) rfl rfl ?_; intro a hf
  refine rd hf rfl (yl_assign rfl) rfl rfl ?_; intro a hf
  refine plan_nil ?_
  replace hf := hf.sel [3, 0] (l' := [(3, _), (0, _)]) rfl
  refine wpIn_seq ?_
  refine wpIn_seq ?_
  -- region 1 (ref.go:81)
  refine wp_reg ([]) ([_, _, _] ++ rs) [(0, true), (1, false), (2, true)] mixed (by kernel_rfl) (hT) ?_; intro w hT
  refine rd hf rfl (yl_loadB Try.underlying31 rfl sz_31 (vs := r.cells) (.head _) rfl (pt_self _ _) rfl rfl) rfl rfl ?_; intro a hf
  refine ef_call hf rfl (wanted_none _ _ rfl) rfl rfl (by kernel_rfl) (Spec.frame (L2 := []) (rCheck_spec r hT)) rfl (l' := [(11, _), (3, _), (0, _)]) rfl ?_; rintro a w v L ⟨L1, ⟨rfl, rfl⟩, rfl⟩ hf hT
  refine rd hf rfl (yl_cmp rfl rfl rfl) rfl rfl ?_; intro a hf
  refine plan_nil ?_
  refine wp_ifd hf rfl (fun hok => ?_) (fun hok => ?_)
  · -- then
    have hok' : ¬ r.Ok := fun h => hok (by rw [if_pos h])
    refine wpIn_seq ?_
    -- region 2 (ref.go:82)
    refine wp_reg ([]) ([_, _, _] ++ rs) [(0, true), (1, true)] mixed (by kernel_rfl) (hT) ?_; intro w hT
    refine rd hf rfl (yl_assign rfl) rfl rfl ?_; intro a hf
    refine rd hf rfl (yl_assign rfl) rfl rfl ?_; intro a hf
    refine plan_nil ?_
    replace hf := hf.sel [5, 4] (l' := [(5, _), (4, _)]) rfl
    refine wpIn_ret ?_
    replace hT := hT.emp
    exact body_ret hf (L := [_, _, _]) ((hT.brings [1]).tail) rfl rfl ⟨s, [], 2, _, _, _, rfl, sl_nil, ⟨lv, X, rfl, hS⟩, rfl, .inl ⟨hok', rfl, rfl, rfl⟩⟩
  · -- else
    have hrok : r.Ok := by by_cases h : r.Ok; exact h; exact absurd (by rw [if_neg h]; decide) hok
    refine wpIn_skip ?_
    refine wpIn_seq ?_
    refine wpIn_seq ?_
    -- region 3 (ref.go:84)
    refine wp_reg ([]) ([_, _, _] ++ rs) [(0, true)] mixed (by kernel_rfl) (hT) ?_; intro w hT
    refine rd hf rfl (yl_assign rfl) rfl rfl ?_; intro a hf
    refine plan_nil ?_
    replace hf := hf.sel [6, 3, 0] (l' := [(6, _), (3, _), (0, _)]) rfl
    refine wpIn_block ?_
    refine wp_loopS (σ := Nat) (fun k => [(6, .int .i64 (k : Nat))]) [(3, _), (0, _)] (fun k L => L = [] ∧ k ≤ s.L.length ∧ ∀ j (h : j < s.L.length), j < k → s.L[j].r.id ≠ r.id) (fun k => s.L.length - k) 0 (L := []) (R := [_, _, _] ++ rs) (hf.sel [6, 3, 0] rfl) (⟨rfl, Nat.zero_le _, fun j h hj => absurd hj (Nat.not_lt_zero _)⟩) hT ?_
    clear hf hT; rintro k a w L hf ⟨rfl, hk, hne⟩ hT
    replace hf : Fr _ [(6, .int .i64 (k : Nat)), (3, _), (0, _)] _ _ := hf
    refine wpIn_seq ?_
    refine wpIn_seq ?_
    -- region 4 (ref.go:84)
    refine wp_reg ([]) ([_, _, _] ++ rs) [(0, true), (1, true), (2, true), (3, true), (4, true), (5, true), (6, true)] mixed (by kernel_rfl) (hT) ?_; intro w hT
    refine rd hf rfl (yl_move rfl) rfl rfl ?_; intro a hf
    refine rd hf rfl (yl_move rfl) rfl rfl ?_; intro a hf
    refine rd hf rfl (yl_nil rfl) rfl rfl ?_; intro a hf
    refine rd hf rfl (yl_faddr Try.underlying68 rfl rfl sz_35 (k := 2) rfl) rfl rfl ?_; intro a hf
    refine rd hf rfl (yl_load Try.underlying35 rfl rfl ⟨_, .tail _ (.head _), _, _, _, pt_self _ _, rfl⟩) rfl rfl ?_; intro a hf
    refine rd hf rfl (yl_lenE rfl Try.underlying35 (hS.els (.tail _ (.tail _ (.head _))))) rfl rfl ?_; intro a hf
    refine rd hf rfl (yl_cmp rfl rfl rfl) rfl rfl ?_; intro a hf
    refine plan_nil ?_
    replace hf := hf.sel [20, 6, 3, 0] (l' := [(20, _), (6, _), (3, _), (0, _)]) rfl
    refine wp_ifd hf rfl (fun hlt => ?_) (fun hlt => ?_)
    · -- then
      have hltk : k < s.L.length := by omega
      have hj : s.L[k]? = some s.L[k] := List.getElem?_eq_getElem hltk
      refine wpIn_skip ?_
      refine wpIn_seq ?_
      refine wpIn_block ?_
      refine wpIn_seq ?_
      -- region 6 (ref.go:85)
      refine wp_reg ([]) ([_, _, _] ++ rs) [(0, true), (1, true), (2, true), (3, true), (4, true), (5, true), (6, true), (7, true), (8, true), (9, true), (10, true), (11, true)] mixed (by kernel_rfl) (hT) ?_; intro w hT
      refine rd hf rfl (yl_move rfl) rfl rfl ?_; intro a hf
      refine rd hf rfl (yl_nil rfl) rfl rfl ?_; intro a hf
      refine rd hf rfl (yl_faddr Try.underlying68 rfl rfl sz_35 (k := 2) rfl) rfl rfl ?_; intro a hf
      refine rd hf rfl (yl_load Try.underlying35 rfl rfl ⟨_, .tail _ (.head _), _, _, _, pt_self _ _, rfl⟩) rfl rfl ?_; intro a hf
      refine rd hf rfl (yl_move rfl) rfl rfl ?_; intro a hf
      refine rd hf rfl (yl_indexE rfl rfl Try.underlying35 sz_44 (hS.els (.tail _ (.tail _ (.head _)))) (by omega) (by omega)) rfl rfl ?_; intro a hf
      refine rd hf rfl (yl_faddr Try.underlying44 rfl rfl sz_31 rfl) rfl rfl ?_; intro a hf
      refine rd hf rfl (yl_faddr Try.underlying31 rfl rfl sz_2 rfl) rfl rfl ?_; intro a hf
      refine rd hf rfl (yl_load Try.underlying2 rfl rfl ((hS.els (.tail _ (.tail _ (.head _)))).cell hj (f := 0) rfl)) rfl rfl ?_; intro a hf
      refine rd hf rfl (yl_faddr Try.underlying31 rfl rfl sz_2 (k := 0) rfl) rfl rfl ?_; intro a hf
      refine rd hf rfl (yl_load Try.underlying2 rfl rfl ⟨_, .head _, _, _, _, pt_self _ _, rfl⟩) rfl rfl ?_; intro a hf
      refine rd hf rfl (yl_cmp rfl rfl rfl) rfl rfl ?_; intro a hf
      refine plan_nil ?_
      replace hf := hf.sel [34, 6, 3, 0] (l' := [(34, _), (6, _), (3, _), (0, _)]) rfl
      refine wp_ifd hf rfl (fun hfd => ?_) (fun hfd => ?_)
      · -- then
        have hin : r.id ∈ ids s.L := List.mem_map.2 ⟨_, List.getElem_mem hltk, hfd⟩
        refine wpIn_seq ?_
        -- region 7 (ref.go:86)
        refine wp_reg ([]) ([_, _, _] ++ rs) [(0, true), (1, true)] mixed (by kernel_rfl) (hT) ?_; intro w hT
        refine rd hf rfl (yl_assign rfl) rfl rfl ?_; intro a hf
        refine rd hf rfl (yl_assign rfl) rfl rfl ?_; intro a hf
        refine plan_nil ?_
        replace hf := hf.sel [5, 4] (l' := [(5, _), (4, _)]) rfl
        refine wpIn_ret ?_
        replace hT := hT.emp
        exact body_ret hf (L := [_, _, _]) ((hT.brings [1]).tail) rfl rfl ⟨s, [], 12, _, _, _, rfl, sl_nil, ⟨lv, X, rfl, hS⟩, rfl, .inr (.inl ⟨hrok, hin, rfl, rfl, rfl⟩)⟩
      · -- else
        refine wpIn_skip ?_
        -- region 5 (ref.go:84)
        refine wp_reg ([]) ([_, _, _] ++ rs) [(0, true), (1, true), (2, true)] mixed (by kernel_rfl) (hT) ?_; intro w hT
        refine rd hf rfl (yl_move rfl) rfl rfl ?_; intro a hf
        refine rd hf rfl (yl_add rfl rfl (by unfold inI64; omega)) rfl rfl ?_; intro a hf
        refine rw_ hf rfl (yl_assign rfl) rfl (l' := [(6, _), (22, _), (21, _), (34, _), (3, _), (0, _)]) rfl ?_; intro a hf
        refine plan_nil ?_
        replace hf := hf.sel [6, 3, 0] (l' := [(6, _), (3, _), (0, _)]) rfl
        exact ⟨k + 1, _, hf.sel [6, 3, 0] rfl, ⟨rfl, by omega, fun j h hj => by by_cases hjk : j = k; subst hjk; exact hfd; exact hne j h (by omega)⟩, hT, by first | omega | (dsimp only; omega)⟩
    · -- else
      obtain rfl : k = s.L.length := by omega
      have hnin : r.id ∉ ids s.L := fun h => by obtain ⟨x, hx, he⟩ := List.mem_map.1 h; obtain ⟨j, hj, rfl⟩ := List.getElem_of_mem hx; exact hne j hj hj he
      refine wpIn_exit ?_
      refine then_exit ?_
      refine then_exit ?_
      refine inBlock_hit ?_
      refine wpIn_seq ?_
      refine wpIn_seq ?_
      -- region 8 (ref.go:89)
      refine wp_reg ([]) ([_, _, _] ++ rs) [(0, true), (1, true), (2, true), (3, true), (4, true), (5, true), (6, true)] mixed (by kernel_rfl) (hT) ?_; intro w hT
      refine rd hf rfl (yl_faddr Try.underlying31 rfl rfl sz_2 (k := 4) rfl) rfl rfl ?_; intro a hf
      refine rd hf rfl (yl_load Try.underlying2 rfl rfl ⟨_, .head _, _, _, _, pt_self _ _, rfl⟩) rfl rfl ?_; intro a hf
      refine rd hf rfl (yl_move rfl) rfl rfl ?_; intro a hf
      refine rd hf rfl (yl_nil rfl) rfl rfl ?_; intro a hf
      refine rd hf rfl (yl_faddr Try.underlying68 rfl rfl sz_2 (k := 0) rfl) rfl rfl ?_; intro a hf
      refine rd hf rfl (yl_load Try.underlying2 rfl rfl ⟨_, .tail _ (.head _), _, _, _, pt_self _ _, rfl⟩) rfl rfl ?_; intro a hf
      refine rd hf rfl (yl_cmp rfl rfl rfl) rfl rfl ?_; intro a hf
      refine plan_nil ?_
      replace hf := hf.sel [41, 3, 0] (l' := [(41, _), (3, _), (0, _)]) rfl
      refine wp_ifd hf rfl (fun hcp => ?_) (fun hcp => ?_)
      · -- then
        refine wpIn_seq ?_
        -- region 9 (ref.go:90)
        refine wp_reg ([]) ([_, _, _] ++ rs) [(0, true), (1, true)] mixed (by kernel_rfl) (hT) ?_; intro w hT
        refine rd hf rfl (yl_assign rfl) rfl rfl ?_; intro a hf
        refine rd hf rfl (yl_assign rfl) rfl rfl ?_; intro a hf
        refine plan_nil ?_
        replace hf := hf.sel [5, 4] (l' := [(5, _), (4, _)]) rfl
        refine wpIn_ret ?_
        replace hT := hT.emp
        exact body_ret hf (L := [_, _, _]) ((hT.brings [1]).tail) rfl rfl ⟨s, [], 14, _, _, _, rfl, sl_nil, ⟨lv, X, rfl, hS⟩, rfl, .inr (.inr (.inl ⟨hrok, hnin, hcp, rfl, rfl, rfl⟩))⟩
      · -- else
        have hri := hI.ins hrok hnin
        have hpp := pos_part hI.srt r
        have hpl := pos_le s.L r
        refine wpIn_skip ?_
        refine wpIn_seq ?_
        -- region 10 (ref.go:92)
        refine wp_reg ([]) ([_, _, _] ++ rs) [(0, true)] mixed (by kernel_rfl) (hT) ?_; intro w hT
        refine rd hf rfl (yl_assign rfl) rfl rfl ?_; intro a hf
        refine plan_nil ?_
        refine wpIn_seq ?_
        have hf0 := hf.sel [3, 0] (l' := [(3, _), (0, _)]) rfl
        refine wp_cut (σ := Nat) (L0 := []) (R := [_, _, _] ++ rs) hf0 hT (fun k => [(7, .int .i64 (k : Nat))]) (fun k L => k = pos s.L r ∧ L = []) ?_ ?_
        · clear hf0
          refine wpIn_block ?_
          refine wp_loopS (σ := Nat) (fun k => [(7, .int .i64 (k : Nat))]) [(3, _), (0, _)] (fun k L => L = [] ∧ k ≤ pos s.L r) (fun k => s.L.length - k) 0 (L := []) (R := [_, _, _] ++ rs) (hf.sel [7, 3, 0] rfl) (⟨rfl, Nat.zero_le _⟩) hT ?_
          clear hf hT; rintro k a w L hf ⟨rfl, hk⟩ hT
          replace hf : Fr _ [(7, .int .i64 (k : Nat)), (3, _), (0, _)] _ _ := hf
          refine wpIn_seq ?_
          refine wpIn_seq ?_
          -- region 11 (ref.go:93)
          refine wp_reg ([]) ([_, _, _] ++ rs) [(0, true), (1, true), (2, true), (3, true), (4, true), (5, true), (6, true), (7, true), (8, true), (9, true), (10, true), (11, true), (12, true), (13, true), (14, true), (15, true), (16, true), (17, false), (18, true)] mixed (by kernel_rfl) (hT) ?_; intro w hT
          refine rd hf rfl (yl_move rfl) rfl rfl ?_; intro a hf
          refine rd hf rfl (yl_move rfl) rfl rfl ?_; intro a hf
          refine rd hf rfl (yl_nil rfl) rfl rfl ?_; intro a hf
          refine rd hf rfl (yl_faddr Try.underlying68 rfl rfl sz_35 (k := 2) rfl) rfl rfl ?_; intro a hf
          refine rd hf rfl (yl_load Try.underlying35 rfl rfl ⟨_, .tail _ (.head _), _, _, _, pt_self _ _, rfl⟩) rfl rfl ?_; intro a hf
          refine rd hf rfl (yl_lenE rfl Try.underlying35 (hS.els (.tail _ (.tail _ (.head _))))) rfl rfl ?_; intro a hf
          refine rd hf rfl (yl_cmp rfl rfl rfl) rfl rfl ?_; intro a hf
          refine rd hf rfl (yl_move rfl) rfl rfl ?_; intro a hf
          by_cases hg7 : ((k : Nat) : Int) < (s.L.length : Nat)
          · have hgT1 : decide (((k : Nat) : Int) < (s.L.length : Nat)) = true := by simpa using hg7
            have hltk : k < s.L.length := by omega
            have hj : s.L[k]? = some s.L[k] := List.getElem?_eq_getElem hltk
            refine rdT hf rfl rfl rfl rfl (by first | exact hgT1 | simp [hgT1]) (yl_loadB Try.underlying31 rfl sz_31 (vs := r.cells) (.head _) rfl (pt_self _ _) rfl rfl) rfl (l' := [(50, _), (49, _), (48, _), (47, _), (46, _), (45, _), (44, _), (43, _), (42, _), (7, _), (3, _), (0, _)]) rfl ?_; intro a hf
            refine rdT hf rfl rfl rfl rfl (by first | exact hgT1 | simp [hgT1]) (yl_move rfl) rfl (l' := [(51, _), (50, _), (49, _), (48, _), (47, _), (46, _), (45, _), (44, _), (43, _), (42, _), (7, _), (3, _), (0, _)]) rfl ?_; intro a hf
            refine rdT hf rfl rfl rfl rfl (by first | exact hgT1 | simp [hgT1]) (yl_nil rfl) rfl (l' := [(52, _), (51, _), (50, _), (49, _), (48, _), (47, _), (46, _), (45, _), (44, _), (43, _), (42, _), (7, _), (3, _), (0, _)]) rfl ?_; intro a hf
            refine rdT hf rfl rfl rfl rfl (by first | exact hgT1 | simp [hgT1]) (yl_faddr Try.underlying68 rfl rfl sz_35 (k := 2) rfl) rfl (l' := [(53, _), (52, _), (51, _), (50, _), (49, _), (48, _), (47, _), (46, _), (45, _), (44, _), (43, _), (42, _), (7, _), (3, _), (0, _)]) rfl ?_; intro a hf
            refine rdT hf rfl rfl rfl rfl (by first | exact hgT1 | simp [hgT1]) (yl_load Try.underlying35 rfl rfl ⟨_, .tail _ (.head _), _, _, _, pt_self _ _, rfl⟩) rfl (l' := [(54, _), (53, _), (52, _), (51, _), (50, _), (49, _), (48, _), (47, _), (46, _), (45, _), (44, _), (43, _), (42, _), (7, _), (3, _), (0, _)]) rfl ?_; intro a hf
            refine rdT hf rfl rfl rfl rfl (by first | exact hgT1 | simp [hgT1]) (yl_move rfl) rfl (l' := [(55, _), (54, _), (53, _), (52, _), (51, _), (50, _), (49, _), (48, _), (47, _), (46, _), (45, _), (44, _), (43, _), (42, _), (7, _), (3, _), (0, _)]) rfl ?_; intro a hf
            refine rdT hf rfl rfl rfl rfl (by first | exact hgT1 | simp [hgT1]) (yl_indexE rfl rfl Try.underlying35 sz_44 (hS.els (.tail _ (.tail _ (.head _)))) (by omega) (by omega)) rfl (l' := [(56, _), (55, _), (54, _), (53, _), (52, _), (51, _), (50, _), (49, _), (48, _), (47, _), (46, _), (45, _), (44, _), (43, _), (42, _), (7, _), (3, _), (0, _)]) rfl ?_; intro a hf
            refine rdT hf rfl rfl rfl rfl (by first | exact hgT1 | simp [hgT1]) (yl_faddr Try.underlying44 rfl rfl sz_31 rfl) rfl (l' := [(57, _), (56, _), (55, _), (54, _), (53, _), (52, _), (51, _), (50, _), (49, _), (48, _), (47, _), (46, _), (45, _), (44, _), (43, _), (42, _), (7, _), (3, _), (0, _)]) rfl ?_; intro a hf
            refine rdT hf rfl rfl rfl rfl (by first | exact hgT1 | simp [hgT1]) (yl_loadA Try.underlying31 rfl sz_31 rfl (((hS.els (.tail _ (.tail _ (.head _)))).row hj).part 0 5) rfl) rfl (l' := [(58, _), (57, _), (56, _), (55, _), (54, _), (53, _), (52, _), (51, _), (50, _), (49, _), (48, _), (47, _), (46, _), (45, _), (44, _), (43, _), (42, _), (7, _), (3, _), (0, _)]) rfl ?_; intro a hf
            refine ef_call hf rfl (by rw [wanted_some hf rfl rfl rfl rfl]; first | exact beqT hgT1 | simp [hgT1]) rfl rfl (by kernel_rfl) (Spec.frame (L2 := []) (rLesser_spec r s.L[k].r hT)) rfl (l' := [(58, _), (57, _), (56, _), (55, _), (54, _), (53, _), (52, _), (51, _), (50, _), (49, _), (48, _), (47, _), (46, _), (45, _), (44, _), (43, _), (42, _), (7, _), (3, _), (0, _)]) rfl ?_; rintro a w v L ⟨L1, ⟨rfl, rfl⟩, rfl⟩ hf hT
            refine rd hf rfl (yl_pickTT rfl hgT1 rfl) rfl rfl ?_; intro a hf
            refine plan_nil ?_
            replace hf := hf.sel [60, 7, 3, 0] (l' := [(60, _), (7, _), (3, _), (0, _)]) rfl
            refine wp_ifd hf rfl (fun hlo => ?_) (fun hlo => ?_)
            · -- then
              refine wpIn_skip ?_
              refine wpIn_block ?_
              -- region 12 (ref.go:94)
              refine wp_reg ([]) ([_, _, _] ++ rs) [(0, true), (1, true), (2, true)] mixed (by kernel_rfl) (hT) ?_; intro w hT
              refine rd hf rfl (yl_move rfl) rfl rfl ?_; intro a hf
              refine rd hf rfl (yl_add rfl rfl (by unfold inI64; omega)) rfl rfl ?_; intro a hf
              refine rw_ hf rfl (yl_assign rfl) rfl (l' := [(7, _), (62, _), (61, _), (60, _), (3, _), (0, _)]) rfl ?_; intro a hf
              refine plan_nil ?_
              replace hf := hf.sel [7, 3, 0] (l' := [(7, _), (3, _), (0, _)]) rfl
              exact ⟨k + 1, _, hf.sel [7, 3, 0] rfl, ⟨rfl, (hpp k hltk).1 ((cmpR_lt _ _).2 hlo)⟩, hT, by first | omega | (dsimp only; omega)⟩
            · -- else
              have hkp : k = pos s.L r := by have h1 : ¬ k < pos s.L r := fun h => hlo ((cmpR_lt _ _).1 ((hpp k hltk).2 h)); omega
              refine wpIn_exit ?_
              refine then_exit ?_
              refine then_exit ?_
              refine inBlock_hit ?_
              exact ⟨k, _, hf.sel [7, 3, 0] rfl, ⟨hkp, rfl⟩, hT⟩
          · have hgT1 : decide (((k : Nat) : Int) < (s.L.length : Nat)) = false := by simpa using hg7
            have hkp : k = pos s.L r := by omega
            refine rdF hf rfl rfl rfl rfl (by first | exact hgT1 | simp [hgT1]) rfl (l' := [(50, _), (49, _), (48, _), (47, _), (46, _), (45, _), (44, _), (43, _), (42, _), (7, _), (3, _), (0, _)]) rfl ?_; intro a hf
            refine rdF hf rfl rfl rfl rfl (by first | exact hgT1 | simp [hgT1]) rfl (l' := [(51, _), (50, _), (49, _), (48, _), (47, _), (46, _), (45, _), (44, _), (43, _), (42, _), (7, _), (3, _), (0, _)]) rfl ?_; intro a hf
            refine rdF hf rfl rfl rfl rfl (by first | exact hgT1 | simp [hgT1]) rfl (l' := [(52, _), (51, _), (50, _), (49, _), (48, _), (47, _), (46, _), (45, _), (44, _), (43, _), (42, _), (7, _), (3, _), (0, _)]) rfl ?_; intro a hf
            refine rdF hf rfl rfl rfl rfl (by first | exact hgT1 | simp [hgT1]) rfl (l' := [(53, _), (52, _), (51, _), (50, _), (49, _), (48, _), (47, _), (46, _), (45, _), (44, _), (43, _), (42, _), (7, _), (3, _), (0, _)]) rfl ?_; intro a hf
            refine rdF hf rfl rfl rfl rfl (by first | exact hgT1 | simp [hgT1]) rfl (l' := [(54, _), (53, _), (52, _), (51, _), (50, _), (49, _), (48, _), (47, _), (46, _), (45, _), (44, _), (43, _), (42, _), (7, _), (3, _), (0, _)]) rfl ?_; intro a hf
            refine rdF hf rfl rfl rfl rfl (by first | exact hgT1 | simp [hgT1]) rfl (l' := [(55, _), (54, _), (53, _), (52, _), (51, _), (50, _), (49, _), (48, _), (47, _), (46, _), (45, _), (44, _), (43, _), (42, _), (7, _), (3, _), (0, _)]) rfl ?_; intro a hf
            refine rdF hf rfl rfl rfl rfl (by first | exact hgT1 | simp [hgT1]) rfl (l' := [(56, _), (55, _), (54, _), (53, _), (52, _), (51, _), (50, _), (49, _), (48, _), (47, _), (46, _), (45, _), (44, _), (43, _), (42, _), (7, _), (3, _), (0, _)]) rfl ?_; intro a hf
            refine rdF hf rfl rfl rfl rfl (by first | exact hgT1 | simp [hgT1]) rfl (l' := [(57, _), (56, _), (55, _), (54, _), (53, _), (52, _), (51, _), (50, _), (49, _), (48, _), (47, _), (46, _), (45, _), (44, _), (43, _), (42, _), (7, _), (3, _), (0, _)]) rfl ?_; intro a hf
            refine rdF hf rfl rfl rfl rfl (by first | exact hgT1 | simp [hgT1]) rfl (l' := [(58, _), (57, _), (56, _), (55, _), (54, _), (53, _), (52, _), (51, _), (50, _), (49, _), (48, _), (47, _), (46, _), (45, _), (44, _), (43, _), (42, _), (7, _), (3, _), (0, _)]) rfl ?_; intro a hf
            refine efF hf rfl rfl rfl rfl (by first | exact hgT1 | simp [hgT1]) hT.allR (by simp [Nat.blt]) (l' := [(59, _), (58, _), (57, _), (56, _), (55, _), (54, _), (53, _), (52, _), (51, _), (50, _), (49, _), (48, _), (47, _), (46, _), (45, _), (44, _), (43, _), (42, _), (7, _), (3, _), (0, _)]) rfl ?_; intro a hf
            refine rd hf rfl (yl_pickFF rfl hgT1 rfl) rfl rfl ?_; intro a hf
            refine plan_nil ?_
            replace hf := hf.sel [60, 7, 3, 0] (l' := [(60, _), (7, _), (3, _), (0, _)]) rfl
            refine wp_ifFF hf rfl (rfl) ?_
            refine wpIn_exit ?_
            refine then_exit ?_
            refine then_exit ?_
            refine inBlock_hit ?_
            exact ⟨k, _, hf.sel [7, 3, 0] rfl, ⟨hkp, rfl⟩, hT⟩
        · clear hf0 hf hT; rintro k a w L hf ⟨hkp, rfl⟩ hT
          replace hf : Fr _ [(7, .int .i64 (k : Nat)), (3, _), (0, _)] _ _ := hf
          refine wpIn_seq ?_
          replace hT := hT.bring 2
          replace hT := hT.bring 2
          have hf0 := hf.sel [0] (l' := [(0, _)]) rfl
          refine wp_cut (σ := Value) (L0 := [_, _]) (R := [_] ++ rs) hf0 hT (fun q => []) (fun q L => ∃ X, Sl encHld 44 q (ins s.L r) X ∧ L = [pt b (.cells (rbCells s.cap s.time q).toArray 68), X]) ?_ ?_
          · clear hf0
            -- region 13 (ref.go:96)
            refine wp_regT ([]) ([_, _, _] ++ rs) (.op 0 true (.op 2 true (.op 3 true (.op 4 true (.op 5 true (.op 6 true (.op 7 true (.op 9 true (.op 10 true (.op 13 true (.op 14 true (.op 15 true (.op 16 true (.op 17 true (.op 18 true (.or (.op 1 false (.or (.fin [(8, false), (11, false), (12, false), (19, false), (20, true), (21, true), (22, false)]) (.fin [(11, false), (8, false), (12, false), (19, false), (20, true), (21, true), (22, false)]))) (.fin [(11, false), (1, false), (8, false), (12, false), (19, false), (20, true), (21, true), (22, false)]))))))))))))))))) mixed (by kernel_rfl) (hT) ?_; intro w hT
            refine planT_op ?_
            refine rd hf rfl (yl_move rfl) rfl rfl ?_; intro a hf
            refine plan_go hT.allR ?_
            refine planT_op ?_
            refine rd hf rfl (yl_move rfl) rfl rfl ?_; intro a hf
            refine plan_go hT.allR ?_
            refine planT_op ?_
            refine rd hf rfl (yl_nil rfl) rfl rfl ?_; intro a hf
            refine plan_go hT.allR ?_
            refine planT_op ?_
            refine rd hf rfl (yl_faddr Try.underlying68 rfl rfl sz_35 (k := 2) rfl) rfl rfl ?_; intro a hf
            refine plan_go hT.allR ?_
            refine planT_op ?_
            refine rd hf rfl (yl_load Try.underlying35 rfl rfl ⟨_, .head _, _, _, _, pt_self _ _, rfl⟩) rfl rfl ?_; intro a hf
            refine plan_go hT.allR ?_
            refine planT_op ?_
            refine rd hf rfl (yl_move rfl) rfl rfl ?_; intro a hf
            refine plan_go hT.allR ?_
            refine planT_op ?_
            refine rd hf rfl (yl_slice (L := 0) (H := k) (A := A0) (c := c0) (congrArg some hv) Try.underlying35 sz_44 rfl (idxI rfl) (by omega) (by omega)) rfl rfl ?_; intro a hf
            refine plan_go hT.allR ?_
            refine planT_op ?_
            refine rd hf rfl (yl_loadB Try.underlying31 rfl sz_31 (vs := r.cells) (.tail _ (.tail _ (.head _))) rfl (pt_self _ _) rfl rfl) rfl rfl ?_; intro a hf
            refine plan_go hT.allR ?_
            refine planT_op ?_
            refine rd hf rfl (yl_build rfl Try.underlying44 zr_44 (places := [(0, 5), (5, 1), (6, 1)]) (by kernel_rfl) (by kernel_rfl) (out := (new r).cells) rfl) rfl rfl ?_; intro a hf
            refine plan_go hT.allR ?_
            refine planT_op ?_
            refine rd hf rfl (yl_move rfl) rfl rfl ?_; intro a hf
            refine plan_go hT.allR ?_
            refine planT_op ?_
            refine rd hf rfl (yl_nil rfl) rfl rfl ?_; intro a hf
            refine plan_go hT.allR ?_
            refine planT_op ?_
            refine rd hf rfl (yl_faddr Try.underlying68 rfl rfl sz_35 (k := 2) rfl) rfl rfl ?_; intro a hf
            refine plan_go hT.allR ?_
            refine planT_op ?_
            refine rd hf rfl (yl_load Try.underlying35 rfl rfl ⟨_, .head _, _, _, _, pt_self _ _, rfl⟩) rfl rfl ?_; intro a hf
            refine plan_go hT.allR ?_
            refine planT_op ?_
            refine rd hf rfl (yl_move rfl) rfl rfl ?_; intro a hf
            refine plan_go hT.allR ?_
            refine planT_op ?_
            refine rd hf rfl (yl_slice (L := k) (H := s.L.length) (A := A0) (c := c0) (congrArg some hv) Try.underlying35 sz_44 (idxI rfl) rfl (by omega) (by omega)) rfl rfl ?_; intro a hf
            refine plan_go hT.allR ?_
            refine planT_or ?_ ?_
            · skip
              refine planT_op ?_
              refine ef hf hT rfl rfl (ef_buildSlice0 (E := encHld) Try.underlying35 zs_44) rfl (l' := [(81, _), (80, _), (79, _), (78, _), (77, _), (76, _), (73, _), (72, _), (70, _), (69, _), (68, _), (67, _), (66, _), (65, _), (63, _), (7, _), (3, _), (0, _)]) rfl ?_; rintro a w e0 L ⟨b2, p1, hvp1, hp1, rfl⟩ hf hT
              refine plan_go hT.allR ?_
              refine planT_or ?_ ?_
              · skip
                refine planT_fin ?_
                refine ef hf hT rfl rfl (ef_append (E := encHld) (L := []) rfl rfl Try.underlying35 zb_44 rfl hp1 (hSv.sub (lo := 0) (hi := k) (.tail _ (.tail _ (.head _))) (Nat.zero_le _) (by omega)) (by simp; omega) (by simp [maxLen]; omega)) rfl (l' := [(64, _), (81, _), (80, _), (79, _), (78, _), (77, _), (76, _), (73, _), (72, _), (70, _), (69, _), (68, _), (67, _), (66, _), (65, _), (63, _), (7, _), (3, _), (0, _)]) rfl ?_; rintro a w e1 L ⟨X1, hS1, rfl⟩ hf hT
                refine ef hf hT rfl rfl (ef_buildSlice (E := encHld) (xs := [new r]) rfl rfl Try.underlying35 zs_44 rfl (by decide) rfl (by decide)) rfl (l' := [(71, _), (64, _), (81, _), (80, _), (79, _), (78, _), (77, _), (76, _), (73, _), (72, _), (70, _), (69, _), (68, _), (67, _), (66, _), (65, _), (63, _), (7, _), (3, _), (0, _)]) rfl ?_; rintro a w one L ⟨b3, p2, hvp2, hp2, rfl⟩ hf hT
                replace hT : Tot _ _ ([_, _] ++ ([_, _, _] ++ rs)) := hT.bring 1
                refine ef hf hT rfl rfl (ef_append (E := encHld) (L := [_]) rfl rfl Try.underlying35 zb_44 rfl hS1 (hp2.els (.tail _ (.head _))) (by simp; omega) (by simp [maxLen]; omega)) rfl (l' := [(74, _), (71, _), (64, _), (81, _), (80, _), (79, _), (78, _), (77, _), (76, _), (73, _), (72, _), (70, _), (69, _), (68, _), (67, _), (66, _), (65, _), (63, _), (7, _), (3, _), (0, _)]) rfl ?_; rintro a w e2 L ⟨X2, hS2, rfl⟩ hf hT
                refine ef hf hT rfl rfl (ef_append (E := encHld) (L := [_]) rfl rfl Try.underlying35 zb_44 rfl hS2 (hSv.sub (lo := k) (hi := s.L.length) (.tail _ (.tail _ (.tail _ (.head _)))) (by omega) (Nat.le_refl _)) (by simp; omega) (by simp [maxLen]; omega)) rfl (l' := [(75, _), (74, _), (71, _), (64, _), (81, _), (80, _), (79, _), (78, _), (77, _), (76, _), (73, _), (72, _), (70, _), (69, _), (68, _), (67, _), (66, _), (65, _), (63, _), (7, _), (3, _), (0, _)]) rfl ?_; rintro a w e3 L ⟨X3, hS3, rfl⟩ hf hT
                refine rd hf rfl (yl_nil rfl) rfl rfl ?_; intro a hf
                refine rd hf rfl (yl_faddr Try.underlying68 rfl rfl sz_35 (k := 2) rfl) rfl rfl ?_; intro a hf
                replace hT : Tot _ _ ([_, _, _] ++ ([_, _] ++ rs)) := hT.bring 2
                refine efS_last hf hT rfl rfl (by kernel_rfl) (ef_store rfl rfl sz_35 hS3.one rfl) ?_; rintro w L rfl hT
                replace hf := hf.sel [0] (l' := [(0, _)]) rfl
                exact ⟨e3, _, hf.sel [0] rfl, ⟨_, by rw [← ins_eq s.L r hkp]; exact hS3, rfl⟩, (hT.brings [3, 3]).tail.tail⟩
              · skip
                refine planT_fin ?_
                refine ef hf hT rfl rfl (ef_buildSlice (E := encHld) (xs := [new r]) rfl rfl Try.underlying35 zs_44 rfl (by decide) rfl (by decide)) rfl (l' := [(64, _), (81, _), (80, _), (79, _), (78, _), (77, _), (76, _), (73, _), (72, _), (70, _), (69, _), (68, _), (67, _), (66, _), (65, _), (63, _), (7, _), (3, _), (0, _)]) rfl ?_; rintro a w one L ⟨b4, p3, hvp3, hp3, rfl⟩ hf hT
                replace hT : Tot _ _ ([_, _] ++ ([_, _, _] ++ rs)) := hT.bring 1
                refine ef hf hT rfl rfl (ef_append (E := encHld) (L := [_]) rfl rfl Try.underlying35 zb_44 rfl hp1 (hSv.sub (lo := 0) (hi := k) (.tail _ (.tail _ (.tail _ (.head _)))) (Nat.zero_le _) (by omega)) (by simp; omega) (by simp [maxLen]; omega)) rfl (l' := [(74, _), (64, _), (81, _), (80, _), (79, _), (78, _), (77, _), (76, _), (73, _), (72, _), (70, _), (69, _), (68, _), (67, _), (66, _), (65, _), (63, _), (7, _), (3, _), (0, _)]) rfl ?_; rintro a w e1 L ⟨X4, hS4, rfl⟩ hf hT
                refine ef hf hT rfl rfl (ef_append (E := encHld) (L := [_]) rfl rfl Try.underlying35 zb_44 rfl hS4 (hp3.els (.tail _ (.head _))) (by simp; omega) (by simp [maxLen]; omega)) rfl (l' := [(71, _), (74, _), (64, _), (81, _), (80, _), (79, _), (78, _), (77, _), (76, _), (73, _), (72, _), (70, _), (69, _), (68, _), (67, _), (66, _), (65, _), (63, _), (7, _), (3, _), (0, _)]) rfl ?_; rintro a w e2 L ⟨X5, hS5, rfl⟩ hf hT
                refine ef hf hT rfl rfl (ef_append (E := encHld) (L := [_]) rfl rfl Try.underlying35 zb_44 rfl hS5 (hSv.sub (lo := k) (hi := s.L.length) (.tail _ (.tail _ (.tail _ (.head _)))) (by omega) (Nat.le_refl _)) (by simp; omega) (by simp [maxLen]; omega)) rfl (l' := [(75, _), (71, _), (74, _), (64, _), (81, _), (80, _), (79, _), (78, _), (77, _), (76, _), (73, _), (72, _), (70, _), (69, _), (68, _), (67, _), (66, _), (65, _), (63, _), (7, _), (3, _), (0, _)]) rfl ?_; rintro a w e3 L ⟨X6, hS6, rfl⟩ hf hT
                refine rd hf rfl (yl_nil rfl) rfl rfl ?_; intro a hf
                refine rd hf rfl (yl_faddr Try.underlying68 rfl rfl sz_35 (k := 2) rfl) rfl rfl ?_; intro a hf
                replace hT : Tot _ _ ([_, _, _] ++ ([_, _] ++ rs)) := hT.bring 2
                refine efS_last hf hT rfl rfl (by kernel_rfl) (ef_store rfl rfl sz_35 hS6.one rfl) ?_; rintro w L rfl hT
                replace hf := hf.sel [0] (l' := [(0, _)]) rfl
                exact ⟨e3, _, hf.sel [0] rfl, ⟨_, by rw [← ins_eq s.L r hkp]; exact hS6, rfl⟩, (hT.brings [3, 3]).tail.tail⟩
            · skip
              refine planT_fin ?_
              refine ef hf hT rfl rfl (ef_buildSlice (E := encHld) (xs := [new r]) rfl rfl Try.underlying35 zs_44 rfl (by decide) rfl (by decide)) rfl (l' := [(81, _), (80, _), (79, _), (78, _), (77, _), (76, _), (73, _), (72, _), (70, _), (69, _), (68, _), (67, _), (66, _), (65, _), (63, _), (7, _), (3, _), (0, _)]) rfl ?_; rintro a w one L ⟨b5, p4, hvp4, hp4, rfl⟩ hf hT
              refine ef hf hT rfl rfl (ef_buildSlice0 (E := encHld) Try.underlying35 zs_44) rfl (l' := [(74, _), (81, _), (80, _), (79, _), (78, _), (77, _), (76, _), (73, _), (72, _), (70, _), (69, _), (68, _), (67, _), (66, _), (65, _), (63, _), (7, _), (3, _), (0, _)]) rfl ?_; rintro a w e0 L ⟨b6, p5, hvp5, hp5, rfl⟩ hf hT
              refine ef hf hT rfl rfl (ef_append (E := encHld) (L := [_]) rfl rfl Try.underlying35 zb_44 rfl hp5 (hSv.sub (lo := 0) (hi := k) (.tail _ (.tail _ (.tail _ (.head _)))) (Nat.zero_le _) (by omega)) (by simp; omega) (by simp [maxLen]; omega)) rfl (l' := [(64, _), (74, _), (81, _), (80, _), (79, _), (78, _), (77, _), (76, _), (73, _), (72, _), (70, _), (69, _), (68, _), (67, _), (66, _), (65, _), (63, _), (7, _), (3, _), (0, _)]) rfl ?_; rintro a w e1 L ⟨X7, hS7, rfl⟩ hf hT
              refine ef hf hT rfl rfl (ef_append (E := encHld) (L := [_]) rfl rfl Try.underlying35 zb_44 rfl hS7 (hp4.els (.tail _ (.head _))) (by simp; omega) (by simp [maxLen]; omega)) rfl (l' := [(71, _), (64, _), (74, _), (81, _), (80, _), (79, _), (78, _), (77, _), (76, _), (73, _), (72, _), (70, _), (69, _), (68, _), (67, _), (66, _), (65, _), (63, _), (7, _), (3, _), (0, _)]) rfl ?_; rintro a w e2 L ⟨X8, hS8, rfl⟩ hf hT
              refine ef hf hT rfl rfl (ef_append (E := encHld) (L := [_]) rfl rfl Try.underlying35 zb_44 rfl hS8 (hSv.sub (lo := k) (hi := s.L.length) (.tail _ (.tail _ (.tail _ (.head _)))) (by omega) (Nat.le_refl _)) (by simp; omega) (by simp [maxLen]; omega)) rfl (l' := [(75, _), (71, _), (64, _), (74, _), (81, _), (80, _), (79, _), (78, _), (77, _), (76, _), (73, _), (72, _), (70, _), (69, _), (68, _), (67, _), (66, _), (65, _), (63, _), (7, _), (3, _), (0, _)]) rfl ?_; rintro a w e3 L ⟨X9, hS9, rfl⟩ hf hT
              refine rd hf rfl (yl_nil rfl) rfl rfl ?_; intro a hf
              refine rd hf rfl (yl_faddr Try.underlying68 rfl rfl sz_35 (k := 2) rfl) rfl rfl ?_; intro a hf
              replace hT : Tot _ _ ([_, _, _] ++ ([_, _] ++ rs)) := hT.bring 2
              refine efS_last hf hT rfl rfl (by kernel_rfl) (ef_store rfl rfl sz_35 hS9.one rfl) ?_; rintro w L rfl hT
              replace hf := hf.sel [0] (l' := [(0, _)]) rfl
              exact ⟨e3, _, hf.sel [0] rfl, ⟨_, by rw [← ins_eq s.L r hkp]; exact hS9, rfl⟩, (hT.brings [3, 3]).tail.tail⟩
          · clear hf0 hf hT; rintro q a w L hf ⟨X2, hS2, rfl⟩ hT
            replace hf : Fr _ [(0, _)] _ _ := hf
            refine wpIn_seq ?_
            -- region 14 (ref.go:97)
            refine wp_reg ([]) ([_, _, _] ++ rs) [(0, true)] mixed (by kernel_rfl) (hT) ?_; intro w hT
            refine rd hf rfl (yl_assign rfl) rfl rfl ?_; intro a hf
            refine plan_nil ?_
            refine wpIn_seq ?_
            refine wpIn_block ?_
            replace hT := hT.emp
            replace hT := hT.bring 2
            replace hT := hT.bring 2
            replace hT := hT.bring 2
            refine wp_loopS (σ := BS × List Int × Value × Value) (fun (s', d, q, lv') => [(8, q)]) [(0, _)] (fun (s', d, q, lv') L => Inv s' ∧ Goes (insB s r) s' d ∧ d.length + s'.L.length ≤ 257 ∧ ∃ XD XO, Sl encI 2 q d XD ∧ Sl encHld 44 lv' s'.L XO ∧ L = [XD, pt b (.cells (rbCells s'.cap s'.time lv').toArray 68), XO]) (fun (s', d, q, lv') => meas s') (insB s r, [], .slice none 0 0, q) (L := [_, _, _]) (R := [_] ++ rs) (hf.sel [8, 0] rfl) (⟨hri, .start, by rw [show (insB s r).L.length = s.L.length + 1 from (ins_perm s.L r).length_eq]; simp; omega, _, _, sl_nil, hS2, rfl⟩) hT ?_
            clear hf hT; rintro ⟨s', d, q, lv'⟩ a w L hf ⟨hIv, hG, hdl, XD, XO, hD, hO, rfl⟩ hT
            replace hf : Fr _ [(8, q), (0, _)] _ _ := hf
            have hRB : RB b s'.cap s'.time s'.L [_, _] := ⟨lv', XO, rfl, hO⟩
            obtain ⟨A1, c1, hv1, hc1⟩ := hO.shape
            have hus := hIv.us
            refine wpIn_seq ?_
            refine wpIn_seq ?_
            -- region 15 (ref.go:98)
            refine wp_reg ([]) ([_, _, _, _] ++ rs) [(0, true), (2, true), (3, true), (4, true), (5, true), (1, false), (6, true), (7, true), (8, true), (9, true), (10, true), (11, true), (12, true), (13, true), (14, true)] mixed (by kernel_rfl) (hT) ?_; intro w hT
            refine rd hf rfl (yl_move rfl) rfl rfl ?_; intro a hf
            refine rd hf rfl (yl_move rfl) rfl rfl ?_; intro a hf
            refine rd hf rfl (yl_nil rfl) rfl rfl ?_; intro a hf
            refine rd hf rfl (yl_faddr Try.underlying68 rfl rfl sz_2 (k := 0) rfl) rfl rfl ?_; intro a hf
            refine rd hf rfl (yl_load Try.underlying2 rfl rfl ⟨_, .tail _ (.head _), _, _, _, pt_self _ _, rfl⟩) rfl rfl ?_; intro a hf
            refine ef_call hf rfl (wanted_none _ _ rfl) rfl rfl (by kernel_rfl) (Spec.frame (L2 := []) (rUsed_spec b s'.cap s'.time s'.L (hRB.inn (fun x hx => by rcases mem2 hx with rfl | rfl; exact .tail _ (.head _); exact .tail _ (.tail _ (.head _)))) hIv.ok (by omega) hT)) rfl (l' := [(90, _), (89, _), (88, _), (87, _), (85, _), (8, _), (0, _)]) rfl ?_; rintro a w v L ⟨L1, ⟨rfl, rfl⟩, rfl⟩ hf hT
            refine rd hf rfl (yl_cmp rfl rfl rfl) rfl rfl ?_; intro a hf
            refine rd hf rfl (yl_move rfl) rfl rfl ?_; intro a hf
            by_cases hg7 : s'.cap < sumB s'.L
            · have hgT2 : decide (s'.cap < sumB s'.L) = true := by simpa using hg7
              have hfull : Full s' := .inl (by omega)
              refine rdF hf rfl rfl rfl rfl (by first | exact hgT2 | simp [hgT2]) rfl (l' := [(93, _), (92, _), (91, _), (86, _), (90, _), (89, _), (88, _), (87, _), (85, _), (8, _), (0, _)]) rfl ?_; intro a hf
              refine rdF hf rfl rfl rfl rfl (by first | exact hgT2 | simp [hgT2]) rfl (l' := [(94, _), (93, _), (92, _), (91, _), (86, _), (90, _), (89, _), (88, _), (87, _), (85, _), (8, _), (0, _)]) rfl ?_; intro a hf
              refine rdF hf rfl rfl rfl rfl (by first | exact hgT2 | simp [hgT2]) rfl (l' := [(95, _), (94, _), (93, _), (92, _), (91, _), (86, _), (90, _), (89, _), (88, _), (87, _), (85, _), (8, _), (0, _)]) rfl ?_; intro a hf
              refine rdF hf rfl rfl rfl rfl (by first | exact hgT2 | simp [hgT2]) rfl (l' := [(96, _), (95, _), (94, _), (93, _), (92, _), (91, _), (86, _), (90, _), (89, _), (88, _), (87, _), (85, _), (8, _), (0, _)]) rfl ?_; intro a hf
              refine rdF hf rfl rfl rfl rfl (by first | exact hgT2 | simp [hgT2]) rfl (l' := [(97, _), (96, _), (95, _), (94, _), (93, _), (92, _), (91, _), (86, _), (90, _), (89, _), (88, _), (87, _), (85, _), (8, _), (0, _)]) rfl ?_; intro a hf
              refine rdF hf rfl rfl rfl rfl (by first | exact hgT2 | simp [hgT2]) rfl (l' := [(98, _), (97, _), (96, _), (95, _), (94, _), (93, _), (92, _), (91, _), (86, _), (90, _), (89, _), (88, _), (87, _), (85, _), (8, _), (0, _)]) rfl ?_; intro a hf
              refine rd hf rfl (yl_pickTT rfl hgT2 rfl) rfl rfl ?_; intro a hf
              refine plan_nil ?_
              replace hf := hf.sel [99, 8, 0] (l' := [(99, _), (8, _), (0, _)]) rfl
              refine wp_ifTT hf rfl (rfl) ?_
              refine wpIn_skip ?_
              refine wpIn_block ?_
              refine wpIn_seq ?_
              -- region 16 (ref.go:99)
              refine wp_reg ([]) ([_, _, _, _] ++ rs) [(0, true), (1, false), (2, true)] mixed (by kernel_rfl) (hT) ?_; intro w hT
              refine rd hf rfl (yl_move rfl) rfl rfl ?_; intro a hf
              refine ef_call hf rfl (wanted_none _ _ rfl) rfl rfl (by kernel_rfl) (Spec.frame (L2 := []) (loose_spec b s'.cap s'.time s'.L (hRB.inn (fun x hx => by rcases mem2 hx with rfl | rfl; exact .tail _ (.head _); exact .tail _ (.tail _ (.head _)))) hT)) rfl (l' := [(100, _), (99, _), (8, _), (0, _)]) rfl ?_; rintro a w v L ⟨L1, ⟨rfl, rfl⟩, rfl⟩ hf hT
              refine rd hf rfl (yl_assign rfl) rfl rfl ?_; intro a hf
              refine plan_nil ?_
              replace hf := hf.sel [9, 8, 0] (l' := [(9, _), (8, _), (0, _)]) rfl
              refine wpIn_seq ?_
              refine wpIn_seq ?_
              rcases sq_cases s'.L with ⟨hl1, hnone⟩ | ⟨i, hi, hl1, hsome⟩
              · rw [hl1] at hf
                have hnn : s'.L.length ≤ 256 → squeeze s'.L = none := fun _ => hnone
                -- region 17 (ref.go:100)
                refine wp_reg ([]) ([_, _, _, _] ++ rs) [(0, true), (1, true), (2, true), (3, true), (4, true), (5, true), (6, true), (7, true), (8, true), (9, true)] mixed (by kernel_rfl) (hT) ?_; intro w hT
                refine rd hf rfl (yl_move rfl) rfl rfl ?_; intro a hf
                refine rd hf rfl (yl_cmp rfl rfl rfl) rfl rfl ?_; intro a hf
                refine rd hf rfl (yl_move rfl) rfl rfl ?_; intro a hf
                refine rdF hf rfl rfl rfl rfl (rfl) rfl (l' := [(105, _), (104, _), (103, _), (102, _), (9, _), (8, _), (0, _)]) rfl ?_; intro a hf
                refine rdF hf rfl rfl rfl rfl (rfl) rfl (l' := [(106, _), (105, _), (104, _), (103, _), (102, _), (9, _), (8, _), (0, _)]) rfl ?_; intro a hf
                refine rdF hf rfl rfl rfl rfl (rfl) rfl (l' := [(107, _), (106, _), (105, _), (104, _), (103, _), (102, _), (9, _), (8, _), (0, _)]) rfl ?_; intro a hf
                refine rdF hf rfl rfl rfl rfl (rfl) rfl (l' := [(108, _), (107, _), (106, _), (105, _), (104, _), (103, _), (102, _), (9, _), (8, _), (0, _)]) rfl ?_; intro a hf
                refine rdF hf rfl rfl rfl rfl (rfl) rfl (l' := [(109, _), (108, _), (107, _), (106, _), (105, _), (104, _), (103, _), (102, _), (9, _), (8, _), (0, _)]) rfl ?_; intro a hf
                refine rdF hf rfl rfl rfl rfl (rfl) rfl (l' := [(110, _), (109, _), (108, _), (107, _), (106, _), (105, _), (104, _), (103, _), (102, _), (9, _), (8, _), (0, _)]) rfl ?_; intro a hf
                refine rd hf rfl (yl_pickFF rfl rfl rfl) rfl rfl ?_; intro a hf
                refine plan_nil ?_
                replace hf := hf.sel [111, 9, 8, 0] (l' := [(111, _), (9, _), (8, _), (0, _)]) rfl
                refine wp_ifFF hf rfl (rfl) ?_
                refine wpIn_skip ?_
                refine wpIn_seq ?_
                obtain ⟨x, hx⟩ := last_of_full hIv hfull
                have hne : 0 < s'.L.length := by cases hq : s'.L with | nil => rw [hq] at hx; cases hx | cons a l => simp
                have hj : s'.L[((((s'.L).length : Nat) : Int) - 1).toNat]? = some x := by rw [show ((((s'.L).length : Nat) : Int) - 1).toNat = s'.L.length - 1 by omega, ← List.getLast?_eq_getElem?, hx]
                have hOs : Sl encHld 44 (.slice A1 s'.L.length c1) s'.L XO := by rw [← hv1]; exact hO
                have hcut := hOs.cut (H := s'.L.length - 1) (by omega)
                have hcut2 : Sl encHld 44 (.slice (if c1 = 0 then A1 else A1.map (·.add (0 * 7))) (s'.L.length - 1 - 0) (c1 - 0)) (drp s' x).L XO := by rw [drp_L hIv hx, List.dropLast_eq_take]; exact hcut
                -- region 19 (ref.go:104)
                refine wp_reg ([]) ([_, _, _, _] ++ rs) [(0, true), (1, true), (2, true), (3, true), (4, true), (5, true), (6, true)] mixed (by kernel_rfl) (hT) ?_; intro w hT
                refine rd hf rfl (yl_move rfl) rfl rfl ?_; intro a hf
                refine rd hf rfl (yl_nil rfl) rfl rfl ?_; intro a hf
                refine rd hf rfl (yl_faddr Try.underlying68 rfl rfl sz_35 (k := 2) rfl) rfl rfl ?_; intro a hf
                refine rd hf rfl (yl_load Try.underlying35 rfl rfl ⟨_, .tail _ (.head _), _, _, _, pt_self _ _, rfl⟩) rfl rfl ?_; intro a hf
                refine rd hf rfl (yl_lenE rfl Try.underlying35 (hO.els (.tail _ (.tail _ (.head _))))) rfl rfl ?_; intro a hf
                refine rd hf rfl (yl_sub rfl rfl (by unfold inI64; omega)) rfl rfl ?_; intro a hf
                refine rd hf rfl (yl_assign rfl) rfl rfl ?_; intro a hf
                refine plan_nil ?_
                replace hf := hf.sel [10, 8, 0] (l' := [(10, _), (8, _), (0, _)]) rfl
                refine wpIn_seq ?_
                -- region 20 (ref.go:105)
                refine wp_reg ([_]) ([_, _, _] ++ rs) [(0, true), (1, true), (2, true), (3, true), (4, true), (5, true), (6, true), (7, true), (8, true), (9, true), (10, false), (11, false), (12, true)] mixed (by kernel_rfl) (hT.brings [0]) ?_; intro w hT
                refine rd hf rfl (yl_move rfl) rfl rfl ?_; intro a hf
                refine rd hf rfl (yl_move rfl) rfl rfl ?_; intro a hf
                refine rd hf rfl (yl_nil rfl) rfl rfl ?_; intro a hf
                refine rd hf rfl (yl_faddr Try.underlying68 rfl rfl sz_35 (k := 2) rfl) rfl rfl ?_; intro a hf
                refine rd hf rfl (yl_load Try.underlying35 rfl rfl ⟨_, .head _, _, _, _, pt_self _ _, rfl⟩) rfl rfl ?_; intro a hf
                refine rd hf rfl (yl_move rfl) rfl rfl ?_; intro a hf
                refine rd hf rfl (yl_indexE rfl rfl Try.underlying35 sz_44 (hO.els (.tail _ (.head _))) (by omega) (by omega)) rfl rfl ?_; intro a hf
                refine rd hf rfl (yl_faddr Try.underlying44 rfl rfl sz_31 rfl) rfl rfl ?_; intro a hf
                refine rd hf rfl (yl_faddr Try.underlying31 rfl rfl sz_2 rfl) rfl rfl ?_; intro a hf
                refine rd hf rfl (yl_load Try.underlying2 rfl rfl ((hO.els (.tail _ (.head _))).cell hj (f := 0) rfl)) rfl rfl ?_; intro a hf
                refine ef hf hT rfl rfl (ef_buildSlice (E := encI) (xs := [x.r.id]) rfl rfl Try.underlying37 zs_2 rfl (by decide) rfl (by decide)) rfl (l' := [(134, _), (133, _), (132, _), (131, _), (130, _), (129, _), (128, _), (127, _), (126, _), (125, _), (10, _), (8, _), (0, _)]) rfl ?_; rintro a w onex L ⟨b7, p6, hvp6, hp6, rfl⟩ hf hT
                replace hT : Tot _ _ ([_, _] ++ ([_, _, _] ++ rs)) := hT.bring 1
                refine ef hf hT rfl rfl (ef_append (E := encI) (L := [_]) rfl rfl Try.underlying37 zb_2 rfl hD (hp6.els (.tail _ (.head _))) (by simp; omega) (by simp [maxLen]; omega)) rfl (l' := [(135, _), (134, _), (133, _), (132, _), (131, _), (130, _), (129, _), (128, _), (127, _), (126, _), (125, _), (10, _), (8, _), (0, _)]) rfl ?_; rintro a w q2 L ⟨X10, hS10, rfl⟩ hf hT
                refine rw_ hf rfl (yl_assign rfl) rfl (l' := [(8, _), (136, _), (135, _), (134, _), (133, _), (132, _), (131, _), (130, _), (129, _), (128, _), (127, _), (126, _), (125, _), (10, _), (0, _)]) rfl ?_; intro a hf
                refine plan_nil ?_
                replace hf := hf.sel [8, 10, 0] (l' := [(8, _), (10, _), (0, _)]) rfl
                -- region 21 (ref.go:106)
                refine wp_reg ([]) ([_, _, _, _, _] ++ rs) [(0, true), (1, true), (2, true), (3, true), (4, true), (5, true), (6, true), (7, true), (8, true), (9, false)] mixed (by kernel_rfl) (hT) ?_; intro w hT
                refine rd hf rfl (yl_move rfl) rfl rfl ?_; intro a hf
                refine rd hf rfl (yl_move rfl) rfl rfl ?_; intro a hf
                refine rd hf rfl (yl_nil rfl) rfl rfl ?_; intro a hf
                refine rd hf rfl (yl_faddr Try.underlying68 rfl rfl sz_35 (k := 2) rfl) rfl rfl ?_; intro a hf
                refine rd hf rfl (yl_load Try.underlying35 rfl rfl ⟨_, .tail _ (.tail _ (.head _)), _, _, _, pt_self _ _, rfl⟩) rfl rfl ?_; intro a hf
                refine rd hf rfl (yl_move rfl) rfl rfl ?_; intro a hf
                refine rd hf rfl (yl_slice (L := 0) (H := s'.L.length - 1) (A := A1) (c := c1) (congrArg some hv1) Try.underlying35 sz_44 rfl (idxI (by omega)) (Nat.zero_le _) (by omega)) rfl rfl ?_; intro a hf
                refine rd hf rfl (yl_nil rfl) rfl rfl ?_; intro a hf
                refine rd hf rfl (yl_faddr Try.underlying68 rfl rfl sz_35 (k := 2) rfl) rfl rfl ?_; intro a hf
                replace hT : Tot _ _ ([_] ++ ([_, _, _, _] ++ rs)) := hT.bring 2
                refine efS_last hf hT rfl rfl (by kernel_rfl) (ef_store rfl rfl sz_35 rfl rfl) ?_; rintro w L rfl hT
                replace hf := hf.sel [8, 0] (l' := [(8, _), (0, _)]) rfl
                exact ⟨(drp s' x, d ++ [x.r.id], q2, (.slice (if c1 = 0 then A1 else A1.map (·.add (0 * 7))) (s'.L.length - 1 - 0) (c1 - 0))), _, hf.sel [8, 0] rfl, ⟨hIv.drp hx, hG.step (.dr x hfull hnn hx), by rw [drp_L hIv hx, List.length_append, List.length_dropLast, List.length_singleton]; omega, _, XO, hS10, hcut2, rfl⟩, ((hT.brings [2]).tail.brings [3, 3, 2, 3]), meas_drp hIv hx⟩
              · rw [hl1] at hf
                have hge : decide ((0 : Int) ≤ ((i : Nat) : Int)) = true := by simp
                have hji : s'.L[i]? = some s'.L[i] := List.getElem?_eq_getElem hi
                -- region 17 (ref.go:100)
                refine wp_reg ([]) ([_, _, _, _] ++ rs) [(0, true), (1, true), (2, true), (3, true), (4, true), (5, true), (6, true), (7, true), (8, true), (9, true)] mixed (by kernel_rfl) (hT) ?_; intro w hT
                refine rd hf rfl (yl_move rfl) rfl rfl ?_; intro a hf
                refine rd hf rfl (yl_cmp rfl rfl rfl) rfl rfl ?_; intro a hf
                refine rd hf rfl (yl_move rfl) rfl rfl ?_; intro a hf
                refine rdT hf rfl rfl rfl rfl (by first | exact hge | simp [hge]) (yl_move rfl) rfl (l' := [(105, _), (104, _), (103, _), (102, _), (9, _), (8, _), (0, _)]) rfl ?_; intro a hf
                refine rdT hf rfl rfl rfl rfl (by first | exact hge | simp [hge]) (yl_nil rfl) rfl (l' := [(106, _), (105, _), (104, _), (103, _), (102, _), (9, _), (8, _), (0, _)]) rfl ?_; intro a hf
                refine rdT hf rfl rfl rfl rfl (by first | exact hge | simp [hge]) (yl_faddr Try.underlying68 rfl rfl sz_35 (k := 2) rfl) rfl (l' := [(107, _), (106, _), (105, _), (104, _), (103, _), (102, _), (9, _), (8, _), (0, _)]) rfl ?_; intro a hf
                refine rdT hf rfl rfl rfl rfl (by first | exact hge | simp [hge]) (yl_load Try.underlying35 rfl rfl ⟨_, .tail _ (.head _), _, _, _, pt_self _ _, rfl⟩) rfl (l' := [(108, _), (107, _), (106, _), (105, _), (104, _), (103, _), (102, _), (9, _), (8, _), (0, _)]) rfl ?_; intro a hf
                refine rdT hf rfl rfl rfl rfl (by first | exact hge | simp [hge]) (yl_lenE rfl Try.underlying35 (hO.els (.tail _ (.tail _ (.head _))))) rfl (l' := [(109, _), (108, _), (107, _), (106, _), (105, _), (104, _), (103, _), (102, _), (9, _), (8, _), (0, _)]) rfl ?_; intro a hf
                refine rdT hf rfl rfl rfl rfl (by first | exact hge | simp [hge]) (yl_cmp rfl rfl rfl) rfl (l' := [(110, _), (109, _), (108, _), (107, _), (106, _), (105, _), (104, _), (103, _), (102, _), (9, _), (8, _), (0, _)]) rfl ?_; intro a hf
                refine rd hf rfl (yl_pickTT rfl hge rfl) rfl rfl ?_; intro a hf
                refine plan_nil ?_
                replace hf := hf.sel [111, 9, 8, 0] (l' := [(111, _), (9, _), (8, _), (0, _)]) rfl
                refine wp_ifd hf rfl (fun h256 => ?_) (fun h256 => ?_)
                · -- then
                  have hsL : (sqz s').L = s'.L.set i { s'.L[i] with small := true } := by simp only [sqz, hsome]; exact mark_set hIv.nd hi
                  have hsc : (sqz s').cap = s'.cap := by simp only [sqz, hsome]
                  have hst : (sqz s').time = s'.time := by simp only [sqz, hsome]
                  refine wpIn_seq ?_
                  -- region 18 (ref.go:101)
                  refine wp_reg ([_]) ([_, _, _] ++ rs) [(0, false), (1, false), (2, false), (3, false), (4, false), (5, false), (6, true), (7, false)] mixed (by kernel_rfl) (hT.brings [2]) ?_; intro w hT
                  refine ef hf hT rfl rfl (ef_read (yl_move rfl)) rfl (l' := [(111, _), (9, _), (8, _), (0, _)]) rfl ?_; rintro a w v L ⟨rfl, rfl⟩ hf hT
                  refine ef hf hT rfl rfl (ef_read (yl_nil rfl)) rfl (l' := [(112, _), (111, _), (9, _), (8, _), (0, _)]) rfl ?_; rintro a w v L ⟨rfl, rfl⟩ hf hT
                  refine ef hf hT rfl rfl (ef_read (yl_faddr Try.underlying68 rfl rfl sz_35 (k := 2) rfl)) rfl (l' := [(113, _), (112, _), (111, _), (9, _), (8, _), (0, _)]) rfl ?_; rintro a w v L ⟨rfl, rfl⟩ hf hT
                  refine ef hf hT rfl rfl (ef_read (yl_load Try.underlying35 rfl rfl ⟨_, .tail _ (.tail _ (.head _)), _, _, _, pt_self _ _, rfl⟩)) rfl (l' := [(114, _), (113, _), (112, _), (111, _), (9, _), (8, _), (0, _)]) rfl ?_; rintro a w v L ⟨rfl, rfl⟩ hf hT
                  refine ef hf hT rfl rfl (ef_read (yl_move rfl)) rfl (l' := [(115, _), (114, _), (113, _), (112, _), (111, _), (9, _), (8, _), (0, _)]) rfl ?_; rintro a w v L ⟨rfl, rfl⟩ hf hT
                  refine ef hf hT rfl rfl (ef_read (yl_indexE rfl rfl Try.underlying35 sz_44 (hO.els (.head _)) (by omega) (by omega))) rfl (l' := [(116, _), (115, _), (114, _), (113, _), (112, _), (111, _), (9, _), (8, _), (0, _)]) rfl ?_; rintro a w v L ⟨rfl, rfl⟩ hf hT
                  refine rd hf rfl (yl_faddr Try.underlying44 rfl rfl sz_4 rfl) rfl rfl ?_; intro a hf
                  refine efS hf hT rfl rfl (ef_storeEl (E := encHld) (j := i) (f := 5) (a' := { s'.L[i] with small := true }) rfl rfl sz_4 rfl hO (hji) (by decide) rfl) ?_; rintro w L ⟨X11, hS11, rfl⟩ hT
                  refine plan_nil ?_
                  replace hf := hf.sel [8, 0] (l' := [(8, _), (0, _)]) rfl
                  refine wpIn_exit ?_
                  refine then_exit ?_
                  refine inBlock_hit ?_
                  exact ⟨(sqz s', d, q, lv'), _, hf.sel [8, 0] rfl, ⟨hIv.sqz, hG.sq (.sq hfull (by omega) (by rw [hsome]; rfl)), by rw [len_sqz]; exact hdl, XD, _, hD, by rw [hsL]; exact hS11, by rw [hsc, hst]⟩, (hT.brings [3, 1, 3, 3]), meas_sqz (by rw [hsome]; rfl)⟩
                · -- else
                  have hnn : s'.L.length ≤ 256 → squeeze s'.L = none := fun h => absurd h (by omega)
                  refine wpIn_skip ?_
                  refine wpIn_seq ?_
                  obtain ⟨x, hx⟩ := last_of_full hIv hfull
                  have hne : 0 < s'.L.length := by cases hq : s'.L with | nil => rw [hq] at hx; cases hx | cons a l => simp
                  have hj : s'.L[((((s'.L).length : Nat) : Int) - 1).toNat]? = some x := by rw [show ((((s'.L).length : Nat) : Int) - 1).toNat = s'.L.length - 1 by omega, ← List.getLast?_eq_getElem?, hx]
                  have hOs : Sl encHld 44 (.slice A1 s'.L.length c1) s'.L XO := by rw [← hv1]; exact hO
                  have hcut := hOs.cut (H := s'.L.length - 1) (by omega)
                  have hcut2 : Sl encHld 44 (.slice (if c1 = 0 then A1 else A1.map (·.add (0 * 7))) (s'.L.length - 1 - 0) (c1 - 0)) (drp s' x).L XO := by rw [drp_L hIv hx, List.dropLast_eq_take]; exact hcut
                  -- region 19 (ref.go:104)
                  refine wp_reg ([]) ([_, _, _, _] ++ rs) [(0, true), (1, true), (2, true), (3, true), (4, true), (5, true), (6, true)] mixed (by kernel_rfl) (hT) ?_; intro w hT
                  refine rd hf rfl (yl_move rfl) rfl rfl ?_; intro a hf
                  refine rd hf rfl (yl_nil rfl) rfl rfl ?_; intro a hf
                  refine rd hf rfl (yl_faddr Try.underlying68 rfl rfl sz_35 (k := 2) rfl) rfl rfl ?_; intro a hf
                  refine rd hf rfl (yl_load Try.underlying35 rfl rfl ⟨_, .tail _ (.head _), _, _, _, pt_self _ _, rfl⟩) rfl rfl ?_; intro a hf
                  refine rd hf rfl (yl_lenE rfl Try.underlying35 (hO.els (.tail _ (.tail _ (.head _))))) rfl rfl ?_; intro a hf
                  refine rd hf rfl (yl_sub rfl rfl (by unfold inI64; omega)) rfl rfl ?_; intro a hf
                  refine rd hf rfl (yl_assign rfl) rfl rfl ?_; intro a hf
                  refine plan_nil ?_
                  replace hf := hf.sel [10, 8, 0] (l' := [(10, _), (8, _), (0, _)]) rfl
                  refine wpIn_seq ?_
                  -- region 20 (ref.go:105)
                  refine wp_reg ([_]) ([_, _, _] ++ rs) [(0, true), (1, true), (2, true), (3, true), (4, true), (5, true), (6, true), (7, true), (8, true), (9, true), (10, false), (11, false), (12, true)] mixed (by kernel_rfl) (hT.brings [0]) ?_; intro w hT
                  refine rd hf rfl (yl_move rfl) rfl rfl ?_; intro a hf
                  refine rd hf rfl (yl_move rfl) rfl rfl ?_; intro a hf
                  refine rd hf rfl (yl_nil rfl) rfl rfl ?_; intro a hf
                  refine rd hf rfl (yl_faddr Try.underlying68 rfl rfl sz_35 (k := 2) rfl) rfl rfl ?_; intro a hf
                  refine rd hf rfl (yl_load Try.underlying35 rfl rfl ⟨_, .head _, _, _, _, pt_self _ _, rfl⟩) rfl rfl ?_; intro a hf
                  refine rd hf rfl (yl_move rfl) rfl rfl ?_; intro a hf
                  refine rd hf rfl (yl_indexE rfl rfl Try.underlying35 sz_44 (hO.els (.tail _ (.head _))) (by omega) (by omega)) rfl rfl ?_; intro a hf
                  refine rd hf rfl (yl_faddr Try.underlying44 rfl rfl sz_31 rfl) rfl rfl ?_; intro a hf
                  refine rd hf rfl (yl_faddr Try.underlying31 rfl rfl sz_2 rfl) rfl rfl ?_; intro a hf
                  refine rd hf rfl (yl_load Try.underlying2 rfl rfl ((hO.els (.tail _ (.head _))).cell hj (f := 0) rfl)) rfl rfl ?_; intro a hf
                  refine ef hf hT rfl rfl (ef_buildSlice (E := encI) (xs := [x.r.id]) rfl rfl Try.underlying37 zs_2 rfl (by decide) rfl (by decide)) rfl (l' := [(134, _), (133, _), (132, _), (131, _), (130, _), (129, _), (128, _), (127, _), (126, _), (125, _), (10, _), (8, _), (0, _)]) rfl ?_; rintro a w onex L ⟨b8, p7, hvp7, hp7, rfl⟩ hf hT
                  replace hT : Tot _ _ ([_, _] ++ ([_, _, _] ++ rs)) := hT.bring 1
                  refine ef hf hT rfl rfl (ef_append (E := encI) (L := [_]) rfl rfl Try.underlying37 zb_2 rfl hD (hp7.els (.tail _ (.head _))) (by simp; omega) (by simp [maxLen]; omega)) rfl (l' := [(135, _), (134, _), (133, _), (132, _), (131, _), (130, _), (129, _), (128, _), (127, _), (126, _), (125, _), (10, _), (8, _), (0, _)]) rfl ?_; rintro a w q2 L ⟨X12, hS12, rfl⟩ hf hT
                  refine rw_ hf rfl (yl_assign rfl) rfl (l' := [(8, _), (136, _), (135, _), (134, _), (133, _), (132, _), (131, _), (130, _), (129, _), (128, _), (127, _), (126, _), (125, _), (10, _), (0, _)]) rfl ?_; intro a hf
                  refine plan_nil ?_
                  replace hf := hf.sel [8, 10, 0] (l' := [(8, _), (10, _), (0, _)]) rfl
                  -- region 21 (ref.go:106)
                  refine wp_reg ([]) ([_, _, _, _, _] ++ rs) [(0, true), (1, true), (2, true), (3, true), (4, true), (5, true), (6, true), (7, true), (8, true), (9, false)] mixed (by kernel_rfl) (hT) ?_; intro w hT
                  refine rd hf rfl (yl_move rfl) rfl rfl ?_; intro a hf
                  refine rd hf rfl (yl_move rfl) rfl rfl ?_; intro a hf
                  refine rd hf rfl (yl_nil rfl) rfl rfl ?_; intro a hf
                  refine rd hf rfl (yl_faddr Try.underlying68 rfl rfl sz_35 (k := 2) rfl) rfl rfl ?_; intro a hf
                  refine rd hf rfl (yl_load Try.underlying35 rfl rfl ⟨_, .tail _ (.tail _ (.head _)), _, _, _, pt_self _ _, rfl⟩) rfl rfl ?_; intro a hf
                  refine rd hf rfl (yl_move rfl) rfl rfl ?_; intro a hf
                  refine rd hf rfl (yl_slice (L := 0) (H := s'.L.length - 1) (A := A1) (c := c1) (congrArg some hv1) Try.underlying35 sz_44 rfl (idxI (by omega)) (Nat.zero_le _) (by omega)) rfl rfl ?_; intro a hf
                  refine rd hf rfl (yl_nil rfl) rfl rfl ?_; intro a hf
                  refine rd hf rfl (yl_faddr Try.underlying68 rfl rfl sz_35 (k := 2) rfl) rfl rfl ?_; intro a hf
                  replace hT : Tot _ _ ([_] ++ ([_, _, _, _] ++ rs)) := hT.bring 2
                  refine efS_last hf hT rfl rfl (by kernel_rfl) (ef_store rfl rfl sz_35 rfl rfl) ?_; rintro w L rfl hT
                  replace hf := hf.sel [8, 0] (l' := [(8, _), (0, _)]) rfl
                  exact ⟨(drp s' x, d ++ [x.r.id], q2, (.slice (if c1 = 0 then A1 else A1.map (·.add (0 * 7))) (s'.L.length - 1 - 0) (c1 - 0))), _, hf.sel [8, 0] rfl, ⟨hIv.drp hx, hG.step (.dr x hfull hnn hx), by rw [drp_L hIv hx, List.length_append, List.length_dropLast, List.length_singleton]; omega, _, XO, hS12, hcut2, rfl⟩, ((hT.brings [2]).tail.brings [3, 3, 2, 3]), meas_drp hIv hx⟩
            · have hgT2 : decide (s'.cap < sumB s'.L) = false := by simpa using hg7
              refine rdT hf rfl rfl rfl rfl (by first | exact hgT2 | simp [hgT2]) (yl_move rfl) rfl (l' := [(93, _), (92, _), (91, _), (86, _), (90, _), (89, _), (88, _), (87, _), (85, _), (8, _), (0, _)]) rfl ?_; intro a hf
              refine rdT hf rfl rfl rfl rfl (by first | exact hgT2 | simp [hgT2]) (yl_nil rfl) rfl (l' := [(94, _), (93, _), (92, _), (91, _), (86, _), (90, _), (89, _), (88, _), (87, _), (85, _), (8, _), (0, _)]) rfl ?_; intro a hf
              refine rdT hf rfl rfl rfl rfl (by first | exact hgT2 | simp [hgT2]) (yl_faddr Try.underlying68 rfl rfl sz_35 (k := 2) rfl) rfl (l' := [(95, _), (94, _), (93, _), (92, _), (91, _), (86, _), (90, _), (89, _), (88, _), (87, _), (85, _), (8, _), (0, _)]) rfl ?_; intro a hf
              refine rdT hf rfl rfl rfl rfl (by first | exact hgT2 | simp [hgT2]) (yl_load Try.underlying35 rfl rfl ⟨_, .tail _ (.head _), _, _, _, pt_self _ _, rfl⟩) rfl (l' := [(96, _), (95, _), (94, _), (93, _), (92, _), (91, _), (86, _), (90, _), (89, _), (88, _), (87, _), (85, _), (8, _), (0, _)]) rfl ?_; intro a hf
              refine rdT hf rfl rfl rfl rfl (by first | exact hgT2 | simp [hgT2]) (yl_lenE rfl Try.underlying35 (hO.els (.tail _ (.tail _ (.head _))))) rfl (l' := [(97, _), (96, _), (95, _), (94, _), (93, _), (92, _), (91, _), (86, _), (90, _), (89, _), (88, _), (87, _), (85, _), (8, _), (0, _)]) rfl ?_; intro a hf
              refine rdT hf rfl rfl rfl rfl (by first | exact hgT2 | simp [hgT2]) (yl_cmp rfl rfl rfl) rfl (l' := [(98, _), (97, _), (96, _), (95, _), (94, _), (93, _), (92, _), (91, _), (86, _), (90, _), (89, _), (88, _), (87, _), (85, _), (8, _), (0, _)]) rfl ?_; intro a hf
              refine rd hf rfl (yl_pickFF rfl hgT2 rfl) rfl rfl ?_; intro a hf
              refine plan_nil ?_
              replace hf := hf.sel [99, 8, 0] (l' := [(99, _), (8, _), (0, _)]) rfl
              refine wp_ifd hf rfl (fun hgo => ?_) (fun hgo => ?_)
              · -- then
                have hfull : Full s' := .inr (by omega)
                refine wpIn_skip ?_
                refine wpIn_block ?_
                refine wpIn_seq ?_
                -- region 16 (ref.go:99)
                refine wp_reg ([]) ([_, _, _, _] ++ rs) [(0, true), (1, false), (2, true)] mixed (by kernel_rfl) (hT) ?_; intro w hT
                refine rd hf rfl (yl_move rfl) rfl rfl ?_; intro a hf
                refine ef_call hf rfl (wanted_none _ _ rfl) rfl rfl (by kernel_rfl) (Spec.frame (L2 := []) (loose_spec b s'.cap s'.time s'.L (hRB.inn (fun x hx => by rcases mem2 hx with rfl | rfl; exact .tail _ (.head _); exact .tail _ (.tail _ (.head _)))) hT)) rfl (l' := [(100, _), (99, _), (8, _), (0, _)]) rfl ?_; rintro a w v L ⟨L1, ⟨rfl, rfl⟩, rfl⟩ hf hT
                refine rd hf rfl (yl_assign rfl) rfl rfl ?_; intro a hf
                refine plan_nil ?_
                replace hf := hf.sel [9, 8, 0] (l' := [(9, _), (8, _), (0, _)]) rfl
                refine wpIn_seq ?_
                refine wpIn_seq ?_
                rcases sq_cases s'.L with ⟨hl1, hnone⟩ | ⟨i, hi, hl1, hsome⟩
                · rw [hl1] at hf
                  have hnn : s'.L.length ≤ 256 → squeeze s'.L = none := fun _ => hnone
                  -- region 17 (ref.go:100)
                  refine wp_reg ([]) ([_, _, _, _] ++ rs) [(0, true), (1, true), (2, true), (3, true), (4, true), (5, true), (6, true), (7, true), (8, true), (9, true)] mixed (by kernel_rfl) (hT) ?_; intro w hT
                  refine rd hf rfl (yl_move rfl) rfl rfl ?_; intro a hf
                  refine rd hf rfl (yl_cmp rfl rfl rfl) rfl rfl ?_; intro a hf
                  refine rd hf rfl (yl_move rfl) rfl rfl ?_; intro a hf
                  refine rdF hf rfl rfl rfl rfl (rfl) rfl (l' := [(105, _), (104, _), (103, _), (102, _), (9, _), (8, _), (0, _)]) rfl ?_; intro a hf
                  refine rdF hf rfl rfl rfl rfl (rfl) rfl (l' := [(106, _), (105, _), (104, _), (103, _), (102, _), (9, _), (8, _), (0, _)]) rfl ?_; intro a hf
                  refine rdF hf rfl rfl rfl rfl (rfl) rfl (l' := [(107, _), (106, _), (105, _), (104, _), (103, _), (102, _), (9, _), (8, _), (0, _)]) rfl ?_; intro a hf
                  refine rdF hf rfl rfl rfl rfl (rfl) rfl (l' := [(108, _), (107, _), (106, _), (105, _), (104, _), (103, _), (102, _), (9, _), (8, _), (0, _)]) rfl ?_; intro a hf
                  refine rdF hf rfl rfl rfl rfl (rfl) rfl (l' := [(109, _), (108, _), (107, _), (106, _), (105, _), (104, _), (103, _), (102, _), (9, _), (8, _), (0, _)]) rfl ?_; intro a hf
                  refine rdF hf rfl rfl rfl rfl (rfl) rfl (l' := [(110, _), (109, _), (108, _), (107, _), (106, _), (105, _), (104, _), (103, _), (102, _), (9, _), (8, _), (0, _)]) rfl ?_; intro a hf
                  refine rd hf rfl (yl_pickFF rfl rfl rfl) rfl rfl ?_; intro a hf
                  refine plan_nil ?_
                  replace hf := hf.sel [111, 9, 8, 0] (l' := [(111, _), (9, _), (8, _), (0, _)]) rfl
                  refine wp_ifFF hf rfl (rfl) ?_
                  refine wpIn_skip ?_
                  refine wpIn_seq ?_
                  obtain ⟨x, hx⟩ := last_of_full hIv hfull
                  have hne : 0 < s'.L.length := by cases hq : s'.L with | nil => rw [hq] at hx; cases hx | cons a l => simp
                  have hj : s'.L[((((s'.L).length : Nat) : Int) - 1).toNat]? = some x := by rw [show ((((s'.L).length : Nat) : Int) - 1).toNat = s'.L.length - 1 by omega, ← List.getLast?_eq_getElem?, hx]
                  have hOs : Sl encHld 44 (.slice A1 s'.L.length c1) s'.L XO := by rw [← hv1]; exact hO
                  have hcut := hOs.cut (H := s'.L.length - 1) (by omega)
                  have hcut2 : Sl encHld 44 (.slice (if c1 = 0 then A1 else A1.map (·.add (0 * 7))) (s'.L.length - 1 - 0) (c1 - 0)) (drp s' x).L XO := by rw [drp_L hIv hx, List.dropLast_eq_take]; exact hcut
                  -- region 19 (ref.go:104)
                  refine wp_reg ([]) ([_, _, _, _] ++ rs) [(0, true), (1, true), (2, true), (3, true), (4, true), (5, true), (6, true)] mixed (by kernel_rfl) (hT) ?_; intro w hT
                  refine rd hf rfl (yl_move rfl) rfl rfl ?_; intro a hf
                  refine rd hf rfl (yl_nil rfl) rfl rfl ?_; intro a hf
                  refine rd hf rfl (yl_faddr Try.underlying68 rfl rfl sz_35 (k := 2) rfl) rfl rfl ?_; intro a hf
                  refine rd hf rfl (yl_load Try.underlying35 rfl rfl ⟨_, .tail _ (.head _), _, _, _, pt_self _ _, rfl⟩) rfl rfl ?_; intro a hf
                  refine rd hf rfl (yl_lenE rfl Try.underlying35 (hO.els (.tail _ (.tail _ (.head _))))) rfl rfl ?_; intro a hf
                  refine rd hf rfl (yl_sub rfl rfl (by unfold inI64; omega)) rfl rfl ?_; intro a hf
                  refine rd hf rfl (yl_assign rfl) rfl rfl ?_; intro a hf
                  refine plan_nil ?_
                  replace hf := hf.sel [10, 8, 0] (l' := [(10, _), (8, _), (0, _)]) rfl
                  refine wpIn_seq ?_
                  -- region 20 (ref.go:105)
                  refine wp_reg ([_]) ([_, _, _] ++ rs) [(0, true), (1, true), (2, true), (3, true), (4, true), (5, true), (6, true), (7, true), (8, true), (9, true), (10, false), (11, false), (12, true)] mixed (by kernel_rfl) (hT.brings [0]) ?_; intro w hT
                  refine rd hf rfl (yl_move rfl) rfl rfl ?_; intro a hf
                  refine rd hf rfl (yl_move rfl) rfl rfl ?_; intro a hf
                  refine rd hf rfl (yl_nil rfl) rfl rfl ?_; intro a hf
                  refine rd hf rfl (yl_faddr Try.underlying68 rfl rfl sz_35 (k := 2) rfl) rfl rfl ?_; intro a hf
                  refine rd hf rfl (yl_load Try.underlying35 rfl rfl ⟨_, .head _, _, _, _, pt_self _ _, rfl⟩) rfl rfl ?_; intro a hf
                  refine rd hf rfl (yl_move rfl) rfl rfl ?_; intro a hf
                  refine rd hf rfl (yl_indexE rfl rfl Try.underlying35 sz_44 (hO.els (.tail _ (.head _))) (by omega) (by omega)) rfl rfl ?_; intro a hf
                  refine rd hf rfl (yl_faddr Try.underlying44 rfl rfl sz_31 rfl) rfl rfl ?_; intro a hf
                  refine rd hf rfl (yl_faddr Try.underlying31 rfl rfl sz_2 rfl) rfl rfl ?_; intro a hf
                  refine rd hf rfl (yl_load Try.underlying2 rfl rfl ((hO.els (.tail _ (.head _))).cell hj (f := 0) rfl)) rfl rfl ?_; intro a hf
                  refine ef hf hT rfl rfl (ef_buildSlice (E := encI) (xs := [x.r.id]) rfl rfl Try.underlying37 zs_2 rfl (by decide) rfl (by decide)) rfl (l' := [(134, _), (133, _), (132, _), (131, _), (130, _), (129, _), (128, _), (127, _), (126, _), (125, _), (10, _), (8, _), (0, _)]) rfl ?_; rintro a w onex L ⟨b9, p8, hvp8, hp8, rfl⟩ hf hT
                  replace hT : Tot _ _ ([_, _] ++ ([_, _, _] ++ rs)) := hT.bring 1
                  refine ef hf hT rfl rfl (ef_append (E := encI) (L := [_]) rfl rfl Try.underlying37 zb_2 rfl hD (hp8.els (.tail _ (.head _))) (by simp; omega) (by simp [maxLen]; omega)) rfl (l' := [(135, _), (134, _), (133, _), (132, _), (131, _), (130, _), (129, _), (128, _), (127, _), (126, _), (125, _), (10, _), (8, _), (0, _)]) rfl ?_; rintro a w q2 L ⟨X13, hS13, rfl⟩ hf hT
                  refine rw_ hf rfl (yl_assign rfl) rfl (l' := [(8, _), (136, _), (135, _), (134, _), (133, _), (132, _), (131, _), (130, _), (129, _), (128, _), (127, _), (126, _), (125, _), (10, _), (0, _)]) rfl ?_; intro a hf
                  refine plan_nil ?_
                  replace hf := hf.sel [8, 10, 0] (l' := [(8, _), (10, _), (0, _)]) rfl
                  -- region 21 (ref.go:106)
                  refine wp_reg ([]) ([_, _, _, _, _] ++ rs) [(0, true), (1, true), (2, true), (3, true), (4, true), (5, true), (6, true), (7, true), (8, true), (9, false)] mixed (by kernel_rfl) (hT) ?_; intro w hT
                  refine rd hf rfl (yl_move rfl) rfl rfl ?_; intro a hf
                  refine rd hf rfl (yl_move rfl) rfl rfl ?_; intro a hf
                  refine rd hf rfl (yl_nil rfl) rfl rfl ?_; intro a hf
                  refine rd hf rfl (yl_faddr Try.underlying68 rfl rfl sz_35 (k := 2) rfl) rfl rfl ?_; intro a hf
                  refine rd hf rfl (yl_load Try.underlying35 rfl rfl ⟨_, .tail _ (.tail _ (.head _)), _, _, _, pt_self _ _, rfl⟩) rfl rfl ?_; intro a hf
                  refine rd hf rfl (yl_move rfl) rfl rfl ?_; intro a hf
                  refine rd hf rfl (yl_slice (L := 0) (H := s'.L.length - 1) (A := A1) (c := c1) (congrArg some hv1) Try.underlying35 sz_44 rfl (idxI (by omega)) (Nat.zero_le _) (by omega)) rfl rfl ?_; intro a hf
                  refine rd hf rfl (yl_nil rfl) rfl rfl ?_; intro a hf
                  refine rd hf rfl (yl_faddr Try.underlying68 rfl rfl sz_35 (k := 2) rfl) rfl rfl ?_; intro a hf
                  replace hT : Tot _ _ ([_] ++ ([_, _, _, _] ++ rs)) := hT.bring 2
                  refine efS_last hf hT rfl rfl (by kernel_rfl) (ef_store rfl rfl sz_35 rfl rfl) ?_; rintro w L rfl hT
                  replace hf := hf.sel [8, 0] (l' := [(8, _), (0, _)]) rfl
                  exact ⟨(drp s' x, d ++ [x.r.id], q2, (.slice (if c1 = 0 then A1 else A1.map (·.add (0 * 7))) (s'.L.length - 1 - 0) (c1 - 0))), _, hf.sel [8, 0] rfl, ⟨hIv.drp hx, hG.step (.dr x hfull hnn hx), by rw [drp_L hIv hx, List.length_append, List.length_dropLast, List.length_singleton]; omega, _, XO, hS13, hcut2, rfl⟩, ((hT.brings [2]).tail.brings [3, 3, 2, 3]), meas_drp hIv hx⟩
                · rw [hl1] at hf
                  have hge : decide ((0 : Int) ≤ ((i : Nat) : Int)) = true := by simp
                  have hji : s'.L[i]? = some s'.L[i] := List.getElem?_eq_getElem hi
                  -- region 17 (ref.go:100)
                  refine wp_reg ([]) ([_, _, _, _] ++ rs) [(0, true), (1, true), (2, true), (3, true), (4, true), (5, true), (6, true), (7, true), (8, true), (9, true)] mixed (by kernel_rfl) (hT) ?_; intro w hT
                  refine rd hf rfl (yl_move rfl) rfl rfl ?_; intro a hf
                  refine rd hf rfl (yl_cmp rfl rfl rfl) rfl rfl ?_; intro a hf
                  refine rd hf rfl (yl_move rfl) rfl rfl ?_; intro a hf
                  refine rdT hf rfl rfl rfl rfl (by first | exact hge | simp [hge]) (yl_move rfl) rfl (l' := [(105, _), (104, _), (103, _), (102, _), (9, _), (8, _), (0, _)]) rfl ?_; intro a hf
                  refine rdT hf rfl rfl rfl rfl (by first | exact hge | simp [hge]) (yl_nil rfl) rfl (l' := [(106, _), (105, _), (104, _), (103, _), (102, _), (9, _), (8, _), (0, _)]) rfl ?_; intro a hf
                  refine rdT hf rfl rfl rfl rfl (by first | exact hge | simp [hge]) (yl_faddr Try.underlying68 rfl rfl sz_35 (k := 2) rfl) rfl (l' := [(107, _), (106, _), (105, _), (104, _), (103, _), (102, _), (9, _), (8, _), (0, _)]) rfl ?_; intro a hf
                  refine rdT hf rfl rfl rfl rfl (by first | exact hge | simp [hge]) (yl_load Try.underlying35 rfl rfl ⟨_, .tail _ (.head _), _, _, _, pt_self _ _, rfl⟩) rfl (l' := [(108, _), (107, _), (106, _), (105, _), (104, _), (103, _), (102, _), (9, _), (8, _), (0, _)]) rfl ?_; intro a hf
                  refine rdT hf rfl rfl rfl rfl (by first | exact hge | simp [hge]) (yl_lenE rfl Try.underlying35 (hO.els (.tail _ (.tail _ (.head _))))) rfl (l' := [(109, _), (108, _), (107, _), (106, _), (105, _), (104, _), (103, _), (102, _), (9, _), (8, _), (0, _)]) rfl ?_; intro a hf
                  refine rdT hf rfl rfl rfl rfl (by first | exact hge | simp [hge]) (yl_cmp rfl rfl rfl) rfl (l' := [(110, _), (109, _), (108, _), (107, _), (106, _), (105, _), (104, _), (103, _), (102, _), (9, _), (8, _), (0, _)]) rfl ?_; intro a hf
                  refine rd hf rfl (yl_pickTT rfl hge rfl) rfl rfl ?_; intro a hf
                  refine plan_nil ?_
                  replace hf := hf.sel [111, 9, 8, 0] (l' := [(111, _), (9, _), (8, _), (0, _)]) rfl
                  refine wp_ifd hf rfl (fun h256 => ?_) (fun h256 => ?_)
                  · -- then
                    have hsL : (sqz s').L = s'.L.set i { s'.L[i] with small := true } := by simp only [sqz, hsome]; exact mark_set hIv.nd hi
                    have hsc : (sqz s').cap = s'.cap := by simp only [sqz, hsome]
                    have hst : (sqz s').time = s'.time := by simp only [sqz, hsome]
                    refine wpIn_seq ?_
                    -- region 18 (ref.go:101)
                    refine wp_reg ([_]) ([_, _, _] ++ rs) [(0, false), (1, false), (2, false), (3, false), (4, false), (5, false), (6, true), (7, false)] mixed (by kernel_rfl) (hT.brings [2]) ?_; intro w hT
                    refine ef hf hT rfl rfl (ef_read (yl_move rfl)) rfl (l' := [(111, _), (9, _), (8, _), (0, _)]) rfl ?_; rintro a w v L ⟨rfl, rfl⟩ hf hT
                    refine ef hf hT rfl rfl (ef_read (yl_nil rfl)) rfl (l' := [(112, _), (111, _), (9, _), (8, _), (0, _)]) rfl ?_; rintro a w v L ⟨rfl, rfl⟩ hf hT
                    refine ef hf hT rfl rfl (ef_read (yl_faddr Try.underlying68 rfl rfl sz_35 (k := 2) rfl)) rfl (l' := [(113, _), (112, _), (111, _), (9, _), (8, _), (0, _)]) rfl ?_; rintro a w v L ⟨rfl, rfl⟩ hf hT
                    refine ef hf hT rfl rfl (ef_read (yl_load Try.underlying35 rfl rfl ⟨_, .tail _ (.tail _ (.head _)), _, _, _, pt_self _ _, rfl⟩)) rfl (l' := [(114, _), (113, _), (112, _), (111, _), (9, _), (8, _), (0, _)]) rfl ?_; rintro a w v L ⟨rfl, rfl⟩ hf hT
                    refine ef hf hT rfl rfl (ef_read (yl_move rfl)) rfl (l' := [(115, _), (114, _), (113, _), (112, _), (111, _), (9, _), (8, _), (0, _)]) rfl ?_; rintro a w v L ⟨rfl, rfl⟩ hf hT
                    refine ef hf hT rfl rfl (ef_read (yl_indexE rfl rfl Try.underlying35 sz_44 (hO.els (.head _)) (by omega) (by omega))) rfl (l' := [(116, _), (115, _), (114, _), (113, _), (112, _), (111, _), (9, _), (8, _), (0, _)]) rfl ?_; rintro a w v L ⟨rfl, rfl⟩ hf hT
                    refine rd hf rfl (yl_faddr Try.underlying44 rfl rfl sz_4 rfl) rfl rfl ?_; intro a hf
                    refine efS hf hT rfl rfl (ef_storeEl (E := encHld) (j := i) (f := 5) (a' := { s'.L[i] with small := true }) rfl rfl sz_4 rfl hO (hji) (by decide) rfl) ?_; rintro w L ⟨X14, hS14, rfl⟩ hT
                    refine plan_nil ?_
                    replace hf := hf.sel [8, 0] (l' := [(8, _), (0, _)]) rfl
                    refine wpIn_exit ?_
                    refine then_exit ?_
                    refine inBlock_hit ?_
                    exact ⟨(sqz s', d, q, lv'), _, hf.sel [8, 0] rfl, ⟨hIv.sqz, hG.sq (.sq hfull (by omega) (by rw [hsome]; rfl)), by rw [len_sqz]; exact hdl, XD, _, hD, by rw [hsL]; exact hS14, by rw [hsc, hst]⟩, (hT.brings [3, 1, 3, 3]), meas_sqz (by rw [hsome]; rfl)⟩
                  · -- else
                    have hnn : s'.L.length ≤ 256 → squeeze s'.L = none := fun h => absurd h (by omega)
                    refine wpIn_skip ?_
                    refine wpIn_seq ?_
                    obtain ⟨x, hx⟩ := last_of_full hIv hfull
                    have hne : 0 < s'.L.length := by cases hq : s'.L with | nil => rw [hq] at hx; cases hx | cons a l => simp
                    have hj : s'.L[((((s'.L).length : Nat) : Int) - 1).toNat]? = some x := by rw [show ((((s'.L).length : Nat) : Int) - 1).toNat = s'.L.length - 1 by omega, ← List.getLast?_eq_getElem?, hx]
                    have hOs : Sl encHld 44 (.slice A1 s'.L.length c1) s'.L XO := by rw [← hv1]; exact hO
                    have hcut := hOs.cut (H := s'.L.length - 1) (by omega)
                    have hcut2 : Sl encHld 44 (.slice (if c1 = 0 then A1 else A1.map (·.add (0 * 7))) (s'.L.length - 1 - 0) (c1 - 0)) (drp s' x).L XO := by rw [drp_L hIv hx, List.dropLast_eq_take]; exact hcut
                    -- region 19 (ref.go:104)
                    refine wp_reg ([]) ([_, _, _, _] ++ rs) [(0, true), (1, true), (2, true), (3, true), (4, true), (5, true), (6, true)] mixed (by kernel_rfl) (hT) ?_; intro w hT
                    refine rd hf rfl (yl_move rfl) rfl rfl ?_; intro a hf
                    refine rd hf rfl (yl_nil rfl) rfl rfl ?_; intro a hf
                    refine rd hf rfl (yl_faddr Try.underlying68 rfl rfl sz_35 (k := 2) rfl) rfl rfl ?_; intro a hf
                    refine rd hf rfl (yl_load Try.underlying35 rfl rfl ⟨_, .tail _ (.head _), _, _, _, pt_self _ _, rfl⟩) rfl rfl ?_; intro a hf
                    refine rd hf rfl (yl_lenE rfl Try.underlying35 (hO.els (.tail _ (.tail _ (.head _))))) rfl rfl ?_; intro a hf
                    refine rd hf rfl (yl_sub rfl rfl (by unfold inI64; omega)) rfl rfl ?_; intro a hf
                    refine rd hf rfl (yl_assign rfl) rfl rfl ?_; intro a hf
                    refine plan_nil ?_
                    replace hf := hf.sel [10, 8, 0] (l' := [(10, _), (8, _), (0, _)]) rfl
                    refine wpIn_seq ?_
                    -- region 20 (ref.go:105)
                    refine wp_reg ([_]) ([_, _, _] ++ rs) [(0, true), (1, true), (2, true), (3, true), (4, true), (5, true), (6, true), (7, true), (8, true), (9, true), (10, false), (11, false), (12, true)] mixed (by kernel_rfl) (hT.brings [0]) ?_; intro w hT
                    refine rd hf rfl (yl_move rfl) rfl rfl ?_; intro a hf
                    refine rd hf rfl (yl_move rfl) rfl rfl ?_; intro a hf
                    refine rd hf rfl (yl_nil rfl) rfl rfl ?_; intro a hf
                    refine rd hf rfl (yl_faddr Try.underlying68 rfl rfl sz_35 (k := 2) rfl) rfl rfl ?_; intro a hf
                    refine rd hf rfl (yl_load Try.underlying35 rfl rfl ⟨_, .head _, _, _, _, pt_self _ _, rfl⟩) rfl rfl ?_; intro a hf
                    refine rd hf rfl (yl_move rfl) rfl rfl ?_; intro a hf
                    refine rd hf rfl (yl_indexE rfl rfl Try.underlying35 sz_44 (hO.els (.tail _ (.head _))) (by omega) (by omega)) rfl rfl ?_; intro a hf
                    refine rd hf rfl (yl_faddr Try.underlying44 rfl rfl sz_31 rfl) rfl rfl ?_; intro a hf
                    refine rd hf rfl (yl_faddr Try.underlying31 rfl rfl sz_2 rfl) rfl rfl ?_; intro a hf
                    refine rd hf rfl (yl_load Try.underlying2 rfl rfl ((hO.els (.tail _ (.head _))).cell hj (f := 0) rfl)) rfl rfl ?_; intro a hf
                    refine ef hf hT rfl rfl (ef_buildSlice (E := encI) (xs := [x.r.id]) rfl rfl Try.underlying37 zs_2 rfl (by decide) rfl (by decide)) rfl (l' := [(134, _), (133, _), (132, _), (131, _), (130, _), (129, _), (128, _), (127, _), (126, _), (125, _), (10, _), (8, _), (0, _)]) rfl ?_; rintro a w onex L ⟨b10, p9, hvp9, hp9, rfl⟩ hf hT
                    replace hT : Tot _ _ ([_, _] ++ ([_, _, _] ++ rs)) := hT.bring 1
                    refine ef hf hT rfl rfl (ef_append (E := encI) (L := [_]) rfl rfl Try.underlying37 zb_2 rfl hD (hp9.els (.tail _ (.head _))) (by simp; omega) (by simp [maxLen]; omega)) rfl (l' := [(135, _), (134, _), (133, _), (132, _), (131, _), (130, _), (129, _), (128, _), (127, _), (126, _), (125, _), (10, _), (8, _), (0, _)]) rfl ?_; rintro a w q2 L ⟨X15, hS15, rfl⟩ hf hT
                    refine rw_ hf rfl (yl_assign rfl) rfl (l' := [(8, _), (136, _), (135, _), (134, _), (133, _), (132, _), (131, _), (130, _), (129, _), (128, _), (127, _), (126, _), (125, _), (10, _), (0, _)]) rfl ?_; intro a hf
                    refine plan_nil ?_
                    replace hf := hf.sel [8, 10, 0] (l' := [(8, _), (10, _), (0, _)]) rfl
                    -- region 21 (ref.go:106)
                    refine wp_reg ([]) ([_, _, _, _, _] ++ rs) [(0, true), (1, true), (2, true), (3, true), (4, true), (5, true), (6, true), (7, true), (8, true), (9, false)] mixed (by kernel_rfl) (hT) ?_; intro w hT
                    refine rd hf rfl (yl_move rfl) rfl rfl ?_; intro a hf
                    refine rd hf rfl (yl_move rfl) rfl rfl ?_; intro a hf
                    refine rd hf rfl (yl_nil rfl) rfl rfl ?_; intro a hf
                    refine rd hf rfl (yl_faddr Try.underlying68 rfl rfl sz_35 (k := 2) rfl) rfl rfl ?_; intro a hf
                    refine rd hf rfl (yl_load Try.underlying35 rfl rfl ⟨_, .tail _ (.tail _ (.head _)), _, _, _, pt_self _ _, rfl⟩) rfl rfl ?_; intro a hf
                    refine rd hf rfl (yl_move rfl) rfl rfl ?_; intro a hf
                    refine rd hf rfl (yl_slice (L := 0) (H := s'.L.length - 1) (A := A1) (c := c1) (congrArg some hv1) Try.underlying35 sz_44 rfl (idxI (by omega)) (Nat.zero_le _) (by omega)) rfl rfl ?_; intro a hf
                    refine rd hf rfl (yl_nil rfl) rfl rfl ?_; intro a hf
                    refine rd hf rfl (yl_faddr Try.underlying68 rfl rfl sz_35 (k := 2) rfl) rfl rfl ?_; intro a hf
                    replace hT : Tot _ _ ([_] ++ ([_, _, _, _] ++ rs)) := hT.bring 2
                    refine efS_last hf hT rfl rfl (by kernel_rfl) (ef_store rfl rfl sz_35 rfl rfl) ?_; rintro w L rfl hT
                    replace hf := hf.sel [8, 0] (l' := [(8, _), (0, _)]) rfl
                    exact ⟨(drp s' x, d ++ [x.r.id], q2, (.slice (if c1 = 0 then A1 else A1.map (·.add (0 * 7))) (s'.L.length - 1 - 0) (c1 - 0))), _, hf.sel [8, 0] rfl, ⟨hIv.drp hx, hG.step (.dr x hfull hnn hx), by rw [drp_L hIv hx, List.length_append, List.length_dropLast, List.length_singleton]; omega, _, XO, hS15, hcut2, rfl⟩, ((hT.brings [2]).tail.brings [3, 3, 2, 3]), meas_drp hIv hx⟩
              · -- else
                refine wpIn_exit ?_
                refine then_exit ?_
                refine then_exit ?_
                refine inBlock_hit ?_
                refine wpIn_seq ?_
                -- region 22 (ref.go:108)
                refine wp_reg ([]) ([_, _, _, _] ++ rs) [(0, true), (1, true), (2, true)] mixed (by kernel_rfl) (hT) ?_; intro w hT
                refine rd hf rfl (yl_move rfl) rfl rfl ?_; intro a hf
                refine rd hf rfl (yl_assign rfl) rfl rfl ?_; intro a hf
                refine rd hf rfl (yl_assign rfl) rfl rfl ?_; intro a hf
                refine plan_nil ?_
                replace hf := hf.sel [5, 4] (l' := [(5, _), (4, _)]) rfl
                refine wpIn_ret ?_
                exact body_ret hf (L := [_, _, _]) ((hT.brings [3]).tail) rfl rfl ⟨s', d, 0, q, XD, _, rfl, hD, hRB, rfl, .inr (.inr (.inr ⟨hrok, hnin, by omega, rfl, hG, fun hf => by rcases hf with hf | hf <;> omega⟩))⟩
end Go.Proofs.Ytjhbgciocffihaa
