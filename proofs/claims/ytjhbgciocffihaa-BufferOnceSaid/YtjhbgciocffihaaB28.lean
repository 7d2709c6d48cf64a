-- written by gen.py out of walks texts of my own
import Derived.Test.YtjhbgciocffihaaB27
import Derived.Test.YtjhbgciocffihaaKS
set_option linter.unusedVariables false
set_option linter.unusedSimpArgs false
set_option maxHeartbeats 4000000
namespace Go.Proofs.Ytjhbgciocffihaa
theorem nodup_sub_len {α : Type} [DecidableEq α] {l m : List α} (hn : l.Nodup) (hs : ∀ x ∈ l, x ∈ m) (hm : m.Nodup) : l.length ≤ m.length := by
  have hp : l.Perm (m.filter fun x => decide (x ∈ l)) := by
    rw [List.perm_ext_iff_of_nodup hn (hm.filter _)]
    intro x; simp only [List.mem_filter, decide_eq_true_eq]
    exact ⟨fun h => ⟨hs x h, h⟩, fun h => h.2⟩
  have := hp.length_eq
  have h2 := List.length_filter_le (fun x => decide (x ∈ l)) m
  omega
def sortI (xs : List Int) : List Int := xs.mergeSort fun x y => decide (x ≤ y)
theorem sortI_perm (xs : List Int) : (sortI xs).Perm xs := List.mergeSort_perm _ _
theorem sortI_sorted (xs : List Int) : (sortI xs).Pairwise (· ≤ ·) := by
  have h := List.pairwise_mergeSort (le := fun x y : Int => decide (x ≤ y)) (fun a b c h1 h2 => by simp at *; omega) (fun a b => by simp; omega) xs
  exact h.imp fun h => by simpa using h
theorem sortI_unique {xs ys : List Int} (hp : xs.Perm ys) (hs : ys.Pairwise (· < ·)) : sortI xs = ys := by
  have h1 := (sortI_perm xs).trans hp
  exact List.Perm.eq_of_pairwise (le := (· ≤ ·)) (fun a b _ _ h2 h3 => Int.le_antisymm h2 h3) (sortI_sorted xs) (hs.imp fun h => Int.le_of_lt h) h1
theorem AppendSeq_spec {e : Env} {w : World} {rs : List Part} (bb : Nat) (keys : List Int) (hI : IterG Try.prog 101 #[.pointer (some ⟨bb, 0, none⟩)] e rs [] (kstep keys) (kfin keys)) (hkn : keys.Nodup) (hkl : keys.length ≤ 1000) (hT : Tot e w rs) : Spec Try.prog 112 #[.slice none 0 0, .func (.func 101) #[] #[.pointer (some ⟨bb, 0, none⟩)]] e w rs (fun v L => ∃ ks X, ks.Perm keys ∧ Sl encI 2 v ks X ∧ L = [X]) := by
  refine spec_body Try.func112 rfl Try.ntmps112 rfl rfl ?_
  intro a hf
  refine wpIn_seq ?_
  -- region 0 (iter.go:50)
  refine wp_reg ([]) ([] ++ rs) [(0, false), (1, true)] mixed (by kernel_rfl) (hT) ?_; intro w hT
  refine ef hf hT rfl rfl (ef_box rfl) rfl (l' := [(0, _), (1, _)]) rfl ?_; rintro a w v L ⟨b1, rfl, rfl⟩ hf hT
  refine rd hf rfl (yl_assign rfl) rfl rfl ?_; intro a hf
  refine plan_nil ?_
  refine wpIn_seq ?_
  refine wpIn_seq ?_
  -- region 1 (iter.go:51)
  refine wp_reg ([]) ([_] ++ rs) [(0, true)] mixed (by kernel_rfl) (hT) ?_; intro w hT
  refine rd hf rfl (yl_move rfl) rfl rfl ?_; intro a hf
  refine plan_nil ?_
  replace hf := hf.sel [6, 2] (l' := [(6, _), (2, _)]) rfl
  refine wpIn_block ?_
  replace hT := hT.emp
  refine wp_rangeG (L := [_, _]) (R := rs) hf (hT.brings [0, 1]) rfl (by kernel_rfl) hI (fun s u s' h => kstep_len h) rfl
    (fun ks L' => ks.Nodup ∧ (∀ x ∈ ks, x ∈ keys) ∧ ∃ q X, Sl encI 2 q ks X ∧ L' = [pt b1 (.cells #[q] 37), X])
    (fun c L' => False) (fun u => [(5, u.getD 0 undef), (2, .pointer (some ⟨b1, 0, none⟩))]) ⟨.nil, by simp, _, _, sl_nil, rfl⟩ ?_ ?_ ?_ ?_
  · rintro lo ks u ks' ⟨k, hk, hnk, rfl, rfl⟩ w a L R hf hT
    replace hf : Fr _ [(7, _), (2, _)] _ _ := hf.sel [7, 2] rfl
    -- region 2 (iter.go:51)
    refine wp_reg (L) ([] ++ _) [(0, true)] mixed (by kernel_rfl) (hT) ?_; intro w hT
    refine rd hf rfl (yl_assign rfl) rfl rfl ?_; intro a hf
    refine plan_nil ?_
    exact ⟨hf.sel [5, 2] rfl, hT⟩
  · rintro lo ks u ks' ⟨k, hk, hnk, rfl, rfl⟩ Rx w a L ⟨hnd, hsub, q, X, hQ, rfl⟩ hf hT
    replace hf : Fr _ [(5, _), (2, _)] _ _ := hf
    have hnd2 : (ks ++ [k]).Nodup := by rw [List.nodup_append]; exact ⟨hnd, by simp, fun a ha b hb hab => by simp at hb; subst hb; subst hab; exact hnk ha⟩
    have hsub2 : ∀ x ∈ ks ++ [k], x ∈ keys := fun x hx => by rcases List.mem_append.1 hx with h | h; exact hsub x h; simp at h; rw [h]; exact hk
    have hkl2 := nodup_sub_len hnd hsub hkn
    refine wpIn_block ?_
    -- region 3 (iter.go:52)
    refine wp_reg ([_]) ([_] ++ (Rx ++ rs)) [(0, true), (1, true), (2, false), (3, false), (4, false)] mixed (by kernel_rfl) (hT.brings [1]) ?_; intro w hT
    refine rd hf rfl (yl_load Try.underlying37 rfl rfl ⟨_, .head _, _, _, _, pt_self _ _, rfl⟩) rfl rfl ?_; intro a hf
    refine rd hf rfl (yl_move rfl) rfl rfl ?_; intro a hf
    refine ef hf hT rfl rfl (ef_buildSlice (E := encI) (xs := [k]) rfl rfl Try.underlying37 zs_2 rfl (by decide) rfl (by decide)) rfl (l' := [(9, _), (8, _), (5, _), (2, _)]) rfl ?_; rintro a w one L ⟨b2, p1, hvp1, hp1, rfl⟩ hf hT
    replace hT : Tot _ _ ([_, _] ++ ([_] ++ (Rx ++ rs))) := hT.bring 1
    refine ef hf hT rfl rfl (ef_append (E := encI) (L := [_]) rfl rfl Try.underlying37 zb_2 rfl hQ (hp1.els (.tail _ (.head _))) (by simp; omega) (by simp [maxLen]; omega)) rfl (l' := [(10, _), (9, _), (8, _), (5, _), (2, _)]) rfl ?_; rintro a w q2 L ⟨X1, hS1, rfl⟩ hf hT
    replace hT : Tot _ _ ([_, _, _] ++ ([] ++ (Rx ++ rs))) := hT.bring 2
    refine efS_last hf hT rfl rfl (by kernel_rfl) (ef_store rfl rfl sz_37 hS1.one rfl) ?_; rintro w L rfl hT
    replace hf := hf.sel [2] (l' := [(2, _)]) rfl
    refine inBlock_norm ?_
    refine rq_normal (L := [_, _]) ?_ ((hT.brings [2]).tail)
    exact ⟨hnd2, hsub2, _, _, hS1, rfl⟩
  · rintro dD ks w a L hfin ⟨hnd, hsub, q, X, hQ, rfl⟩ hf hT
    replace hf := hf.sel [2] (l' := [(2, _)]) rfl
    refine wpIn_seq ?_
    -- region 4 (iter.go:54)
    refine wp_reg ([]) ([_, _, _] ++ rs) [(0, true), (1, true)] mixed (by kernel_rfl) (hT) ?_; intro w hT
    refine rd hf rfl (yl_load Try.underlying37 rfl rfl ⟨_, .tail _ (.head _), _, _, _, pt_self _ _, rfl⟩) rfl rfl ?_; intro a hf
    refine rd hf rfl (yl_assign rfl) rfl rfl ?_; intro a hf
    refine plan_nil ?_
    refine wpIn_ret ?_
    replace hT := hT
    refine body_retG (L := [_]) [_] [dD] hf hT rfl (vs := [q]) ⟨rfl, trivial⟩ ⟨ks, _, hfin, hQ, rfl⟩
  · intro dD c w a L hX; exact hX.elim
theorem Collect_spec {e : Env} {w : World} {rs : List Part} (bb : Nat) (keys : List Int) (hI : IterG Try.prog 101 #[.pointer (some ⟨bb, 0, none⟩)] e rs [] (kstep keys) (kfin keys)) (hkn : keys.Nodup) (hkl : keys.length ≤ 1000) (hT : Tot e w rs) : Spec Try.prog 99 #[.func (.func 101) #[] #[.pointer (some ⟨bb, 0, none⟩)]] e w rs (fun v L => ∃ ks X, ks.Perm keys ∧ Sl encI 2 v ks X ∧ L = [X]) := by
  refine spec_body Try.func99 rfl Try.ntmps99 rfl rfl ?_
  intro a hf
  refine wpIn_seq ?_
  -- region 0 (iter.go:59)
  refine wp_reg ([]) ([] ++ rs) [(0, true)] mixed (by kernel_rfl) (hT) ?_; intro w hT
  refine rd hf rfl (yl_assign rfl) rfl rfl ?_; intro a hf
  refine plan_nil ?_
  refine wpIn_seq ?_
  -- region 1 (iter.go:60)
  refine wp_reg ([]) ([] ++ rs) [(0, true), (1, false), (2, true)] mixed (by kernel_rfl) (hT) ?_; intro w hT
  refine rd hf rfl (yl_move rfl) rfl rfl ?_; intro a hf
  refine ef_call hf rfl (wanted_none _ _ rfl) rfl rfl (by kernel_rfl) (Spec.frame (L2 := []) (AppendSeq_spec bb keys hI hkn hkl hT)) rfl (l' := [(3, _), (2, _), (0, _)]) rfl ?_; rintro a w q L ⟨L1, ⟨ks, X, hp, hX, rfl⟩, rfl⟩ hf hT
  refine rw_ hf rfl (yl_assign rfl) rfl (l' := [(2, _), (4, _), (3, _), (0, _)]) rfl ?_; intro a hf
  refine plan_nil ?_
  replace hf := hf.sel [2] (l' := [(2, _)]) rfl
  refine wpIn_ret ?_
  exact body_ret hf (L := [_]) hT rfl rfl ⟨ks, X, hp, hX, rfl⟩
theorem SortI_spec {e : Env} {w : World} {R : List Part} {v : Value} {xs : List Int} {X : Part} (hS : Sl encI 2 v xs X) (hlen : xs.length ≤ 1000) (hT : Tot e w ([X] ++ R)) : Spec Try.prog 100 #[v] e w R (fun v' L' => v' = .tuple #[] ∧ ∃ X', Sl encI 2 v (sortI xs) X' ∧ L' = [X']) :=
  sortInt_spec Try.sortInt (fun _ => rfl) rfl hS (by omega) hT
theorem Sorted_spec {e : Env} {w : World} {rs : List Part} (bb : Nat) (keys : List Int) (hI : IterG Try.prog 101 #[.pointer (some ⟨bb, 0, none⟩)] e rs [] (kstep keys) (kfin keys)) (hkn : keys.Nodup) (hkl : keys.length ≤ 1000) (hT : Tot e w rs) : Spec Try.prog 71 #[.func (.func 101) #[] #[.pointer (some ⟨bb, 0, none⟩)]] e w rs (fun v L => ∃ ks X, ks.Perm keys ∧ Sl encI 2 v (sortI ks) X ∧ L = [X]) := by
  refine spec_body Try.func71 rfl Try.ntmps71 rfl rfl ?_
  intro a hf
  refine wpIn_seq ?_
  -- region 0 (iter.go:66)
  refine wp_reg ([]) ([] ++ rs) [(0, true)] mixed (by kernel_rfl) (hT) ?_; intro w hT
  refine rd hf rfl (yl_assign rfl) rfl rfl ?_; intro a hf
  refine plan_nil ?_
  refine wpIn_seq ?_
  -- region 1 (iter.go:67)
  refine wp_reg ([]) ([] ++ rs) [(0, true), (1, false), (2, true)] mixed (by kernel_rfl) (hT) ?_; intro w hT
  refine rd hf rfl (yl_move rfl) rfl rfl ?_; intro a hf
  refine ef_call hf rfl (wanted_none _ _ rfl) rfl rfl (by kernel_rfl) (Spec.frame (L2 := []) (Collect_spec bb keys hI hkn hkl hT)) rfl (l' := [(4, _), (2, _), (0, _)]) rfl ?_; rintro a w q L ⟨L1, ⟨ks, X, hp, hX, rfl⟩, rfl⟩ hf hT
  refine rd hf rfl (yl_assign rfl) rfl rfl ?_; intro a hf
  refine plan_nil ?_
  replace hf := hf.sel [3] (l' := [(3, _)]) rfl
  refine wpIn_seq ?_
  -- region 2 (iter.go:68)
  refine wp_reg ([_]) ([] ++ rs) [(0, true), (1, false)] mixed (by kernel_rfl) (hT.brings [0]) ?_; intro w hT
  refine rd hf rfl (yl_move rfl) rfl rfl ?_; intro a hf
  refine ef_call hf rfl (wanted_none _ _ rfl) rfl rfl (by kernel_rfl) (Spec.frame (L2 := []) (SortI_spec hX (by rw [hp.length_eq]; omega) hT)) rfl (l' := [(6, _), (3, _)]) rfl ?_; rintro a w v L ⟨L1, ⟨rfl, X, hX2, rfl⟩, rfl⟩ hf hT
  refine plan_nil ?_
  refine wpIn_seq ?_
  -- region 3 (iter.go:69)
  refine wp_reg ([]) ([_] ++ rs) [(0, true), (1, true)] mixed (by kernel_rfl) (hT) ?_; intro w hT
  refine rd hf rfl (yl_move rfl) rfl rfl ?_; intro a hf
  refine rd hf rfl (yl_assign rfl) rfl rfl ?_; intro a hf
  refine plan_nil ?_
  replace hf := hf.sel [2] (l' := [(2, _)]) rfl
  refine wpIn_ret ?_
  exact body_ret hf (L := [_]) hT rfl rfl ⟨ks, X, hp, hX2, rfl⟩
end Go.Proofs.Ytjhbgciocffihaa
