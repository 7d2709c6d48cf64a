-- written by gen.py out of walks texts of my own
import Derived.Test.YtjhbgciocffihaaB25
import Derived.Test.YtjhbgciocffihaaK12
set_option linter.unusedVariables false
set_option linter.unusedSimpArgs false
set_option maxHeartbeats 4000000
namespace Go.Proofs.Ytjhbgciocffihaa
/-- The keys come one by one, in some order. -/
def kstep (keys : List Int) (ks : List Int) (u : List Value) (ks' : List Int) : Prop := ∃ k, k ∈ keys ∧ k ∉ ks ∧ u = [ik k] ∧ ks' = ks ++ [k]
def kfin (keys : List Int) (ks : List Int) : Prop := ks.Perm keys
theorem kstep_len {keys ks : List Int} {u : List Value} {ks' : List Int} (h : kstep keys ks u ks') : u.length = 1 := by obtain ⟨k, _, _, rfl, _⟩ := h; rfl
def visK (m : List (Int × Rec)) (vis : List Nat) : List Int := vis.map fun i => (m.map (·.1)).getD i 0
theorem visK_snoc {m : List (Int × Rec)} {vis : List Nat} {i : Nat} (hi : i < m.length) : visK m (vis ++ [i]) = visK m vis ++ [m[i].1] := by simp [visK, hi]
theorem visK_step {m : List (Int × Rec)} (hn : (m.map (·.1)).Nodup) {vis : List Nat} (hl : ∀ j ∈ vis, j < m.length) {i : Nat} (hi : i < m.length) (hni : i ∉ vis) : kstep (m.map (·.1)) (visK m vis) [ik m[i].1] (visK m (vis ++ [i])) := by
  refine ⟨m[i].1, List.mem_map.2 ⟨_, List.getElem_mem hi, rfl⟩, fun h => ?_, rfl, visK_snoc hi⟩
  obtain ⟨j, hj, he⟩ := List.mem_map.1 h
  have hjl := hl j hj
  have h1 : (m.map (·.1))[j]'(by simpa using hjl) = (m.map (·.1))[i]'(by simpa using hi) := by simpa [hjl] using he
  have h2 := List.pairwise_iff_getElem.1 hn
  rcases Nat.lt_trichotomy i j with h3 | h3 | h3
  · exact absurd h1.symm (h2 i j _ _ h3)
  · exact hni (h3 ▸ hj)
  · exact absurd h1 (h2 j i _ _ h3)
theorem visK_fin {m : List (Int × Rec)} {vis : List Nat} (hn : vis.Nodup) (hl : ∀ i ∈ vis, i < m.length) (h : ∀ i, i < m.length → i ∈ vis) : kfin (m.map (·.1)) (visK m vis) := by
  have h1 := (vis_all hn hl h).map fun i => (m.map (·.1)).getD i 0
  have h2 : (List.range m.length).map (fun i => (m.map (·.1)).getD i 0) = m.map (·.1) := by
    apply List.ext_getElem (by simp)
    intro i h3 h4
    simp at h3
    simp [h3]
  rw [h2] at h1; exact h1
theorem Keys_spec {e : Env} {w : World} {rs : List Part} (vm : Value) (hT : Tot e w rs) : Spec Try.prog 72 #[vm] e w rs (fun v L => ∃ bb, v = .func (.func 101) #[] #[.pointer (some ⟨bb, 0, none⟩)] ∧ L = [pt bb (.cells vm.cells 29)]) := by
  refine spec_body Try.func72 rfl Try.ntmps72 rfl rfl ?_
  intro a hf
  refine wpIn_seq ?_
  -- region 0 (iter.go:25)
  refine wp_reg ([]) ([] ++ rs) [(0, false), (1, true)] mixed (by kernel_rfl) (hT) ?_; intro w hT
  refine ef hf hT rfl rfl (ef_box rfl) rfl (l' := [(0, _)]) rfl ?_; rintro a w v L ⟨b1, rfl, rfl⟩ hf hT
  refine rd hf rfl (yl_assign rfl) rfl rfl ?_; intro a hf
  refine plan_nil ?_
  refine wpIn_seq ?_
  -- region 1 (iter.go:26)
  refine wp_reg ([]) ([_] ++ rs) [(0, true), (1, true)] mixed (by kernel_rfl) (hT) ?_; intro w hT
  refine rd hf rfl (yl_func rfl) rfl rfl ?_; intro a hf
  refine rw_ hf rfl (yl_assign rfl) rfl (l' := [(2, _), (3, _), (1, _), (0, _)]) rfl ?_; intro a hf
  refine plan_nil ?_
  replace hf := hf.sel [2] (l' := [(2, _)]) rfl
  refine wpIn_ret ?_
  exact body_ret hf (L := [_]) (hT) rfl rfl ⟨b1, rfl, rfl⟩
theorem Keys_iter {e : Env} {rs : List Part} (bb bm clk : Nat) (es : Array MapEntry) (m : List (Int × Rec)) (hbox : RowIn rs bb 0 [.map (some bm)]) (hM : pt bm (.map es clk) ∈ rs) (hE : Entries ik encR es clk m) :
    IterG Try.prog 101 #[.pointer (some ⟨bb, 0, none⟩)] e rs [] (kstep (m.map (·.1))) (kfin (m.map (·.1))) := by
  intro lo w J X L0 hJ0 hT hround
  refine spec_body (vs := [.func (.yield lo) #[] #[], .pointer (some ⟨bb, 0, none⟩)]) Try.func101 rfl Try.ntmps101 rfl rfl ?_
  intro a hf
  refine wpIn_seq ?_
  -- region 0 (iter.go:27)
  refine wp_reg (L0) ([] ++ rs) [(0, true), (1, false)] mixed (by kernel_rfl) (hT) ?_; intro w hT
  refine rd hf rfl (yl_load Try.underlying29 rfl rfl (hbox 0 _ rfl).app) rfl rfl ?_; intro a hf
  refine ef hf hT rfl rfl (ef_range rfl Try.underlying29 (List.mem_append_right _ hM)) rfl (l' := [(4, _), (0, _), (1, _)]) rfl ?_; rintro a w v L ⟨it, rfl, rfl⟩ hf hT
  refine plan_nil ?_
  refine wpIn_block ?_
  replace hT : Tot _ _ ((pt it (itObj bm clk #[]) :: L0) ++ rs) := hT
  refine wp_loopS (σ := List Nat × Array Nat) (fun (vis, sn) => []) [(5, _), (0, _)] (fun (vis, sn) L => Seen es sn vis ∧ ∃ L2, J (visK m vis) L2 ∧ L = pt it (itObj bm clk sn) :: L2) (fun (vis, sn) => m.length - vis.length) ([], #[]) (L := pt it (itObj bm clk #[]) :: L0) (R := rs) (hf.sel [5, 0] rfl) ⟨seen_nil es, L0, hJ0, rfl⟩ hT ?_
  clear hf hT; rintro ⟨vis, sn⟩ a w L hf ⟨hS, L2, hJ, rfl⟩ hT
  replace hf : Fr _ [(5, _), (0, _)] _ _ := hf
  have hsz := hE.size
  have hvl : ∀ j ∈ vis, j < m.length := fun j hj => by have := hS.lt j hj; omega
  refine wpIn_seq ?_
  -- region 1 (iter.go:27)
  refine wp_reg ([_] ++ L2) ([] ++ rs) [(0, false), (1, true)] mixed (by kernel_rfl) (hT.brings [0]) ?_; intro w hT
  refine ef hf hT rfl rfl (ef_next (encK := ik) (encV := encR) rfl (List.mem_append_right _ hM) hE hS) rfl (l' := [(5, _), (0, _)]) rfl ?_; rintro a w v L hv hf hT
  rcases hv with ⟨rfl, rfl, hall⟩ | ⟨i, hi, hni, rfl, sn', hS2, rfl⟩
  · skip
    refine rd hf rfl (yl_extract rfl rfl) rfl rfl ?_; intro a hf
    refine plan_nil ?_
    refine wpIn_seq ?_
    refine wp_ifFF hf rfl (rfl) ?_
    refine wpIn_exit ?_
    refine then_exit ?_
    refine then_exit ?_
    refine inBlock_hit ?_
    exact body_end hf (L := L2) hT.tail rfl rfl (.inl ⟨_, visK_fin hS.nd hvl hall, hJ⟩)
  · skip
    have hst := visK_step hE.keys hvl hi hni
    refine rd hf rfl (yl_extract rfl rfl) rfl rfl ?_; intro a hf
    refine plan_nil ?_
    refine wpIn_seq ?_
    refine wp_ifTT hf rfl (rfl) ?_
    refine wpIn_skip ?_
    refine wpIn_block ?_
    refine wpIn_seq ?_
    replace hT : Tot _ _ (L2 ++ ([pt it (itObj bm clk sn')] ++ rs)) := hT.perm (by exact List.perm_middle.symm)
    -- region 2 (iter.go:27)
    refine wp_reg (L2) ([_] ++ rs) [(0, true), (1, true), (2, true)] mixed (by kernel_rfl) (hT) ?_; intro w hT
    refine rd hf rfl (yl_entry (m := m) (encK := ik) (encV := encR) rfl (List.mem_cons_self ..) (List.mem_cons_of_mem _ hM) hE hS2 hi) rfl rfl ?_; intro a hf
    refine rd hf rfl (yl_extract rfl rfl) rfl rfl ?_; intro a hf
    refine rd hf rfl (yl_assign rfl) rfl rfl ?_; intro a hf
    refine plan_nil ?_
    replace hf := hf.sel [3, 5, 0] (l' := [(3, _), (5, _), (0, _)]) rfl
    refine wpIn_seq ?_
    -- region 3 (iter.go:28)
    refine wp_reg (L2) ([_] ++ rs) [(0, true), (1, true), (2, false), (3, true)] mixed (by kernel_rfl) (hT) ?_; intro w hT
    refine rd hf rfl (yl_move rfl) rfl rfl ?_; intro a hf
    refine rd hf rfl (yl_move rfl) rfl rfl ?_; intro a hf
    refine ef_yield hf rfl rfl rfl (hround _ _ _ hst [_] w L2 hJ hT) rfl (l' := [(11, _), (10, _), (3, _), (5, _), (0, _)]) rfl ?_; rintro a w bb L2 ⟨hb1, hb2⟩ hf hT
    refine rd hf rfl (yl_not rfl) rfl rfl ?_; intro a hf
    refine plan_nil ?_
    replace hf := hf.sel [13, 5, 0] (l' := [(13, _), (5, _), (0, _)]) rfl
    refine wp_if hf rfl (fun hbb => ?_) (fun hbb => ?_)
    · -- then
      obtain rfl : bb = false := by simpa using hbb
      replace hT : Tot _ _ ((_ :: L2) ++ rs) := hT.perm (by exact List.perm_middle)
      refine wpIn_ret ?_
      exact body_ret hf (L := L2) hT.tail rfl rfl (.inr (hb2 rfl))
    · -- else
      obtain rfl : bb = true := by simpa using hbb
      replace hT : Tot _ _ ((_ :: L2) ++ rs) := hT.perm (by exact List.perm_middle)
      refine wpIn_skip ?_
      exact ⟨(vis ++ [i], sn'), _, hf.sel [5, 0] rfl, ⟨hS2, L2, hb1 rfl, rfl⟩, hT, by have h5 := vis_len hS2.nd (fun j hj => by have := hS2.lt j hj; omega : ∀ j ∈ vis ++ [i], j < m.length); simp only [List.length_append, List.length_singleton] at h5 ⊢; omega⟩
end Go.Proofs.Ytjhbgciocffihaa
