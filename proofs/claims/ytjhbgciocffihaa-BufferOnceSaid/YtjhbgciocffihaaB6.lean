-- written by gen.py out of walks texts of my own
import Derived.Test.YtjhbgciocffihaaB5
import Derived.Test.YtjhbgciocffihaaK7
set_option linter.unusedVariables false
set_option linter.unusedSimpArgs false
set_option maxHeartbeats 4000000
namespace Go.Proofs.Ytjhbgciocffihaa
theorem idxI {j : Int} {n : Nat} (h : j = n) : (if 0 ≤ j then some j.toNat else none) = some n := by subst h; simp
theorem allI (xs : List Int) : encI.all xs = xs.map fun x => Value.int .i64 x := by
  induction xs with
  | nil => rfl
  | cons x xs ih => simp only [Enc.all, List.flatMap_cons, List.map_cons] at ih ⊢; rw [ih]; rfl
theorem rowI {b : Nat} {cs : Array Value} {T : TypeId} {R : List Part} {xs : List Int} (h : cs.toList.take (xs.length * encI.sz) = encI.all xs) (hp : pt b (.cells cs T) ∈ R) (k m : Nat) : RowIn R b k (((xs.drop k).take m).map fun x => Value.int .i64 x) := by
  rw [allI, show encI.sz = 1 from rfl, Nat.mul_one] at h
  refine RowIn.of_block hp (pt_self _ _) fun j hj => ?_
  simp only [List.length_map, List.length_take, List.length_drop] at hj
  have h1 : (cs.toList.take xs.length)[k + j]? = cs[k + j]? := by rw [List.getElem?_take, if_pos (by omega), Array.getElem?_toList]
  rw [← h1, h, List.getElem?_map, List.getElem?_map, List.getElem?_take, if_pos (by omega), List.getElem?_drop]
theorem rowTake {b : Nat} {cs : Array Value} {T : TypeId} {R : List Part} {xs : List Int} (h : cs.toList.take (xs.length * encI.sz) = encI.all xs) (hp : pt b (.cells cs T) ∈ R) {o : Nat} (ho : o = 0) (i : Nat) : RowIn R b o (encI.all (xs.take i)) := by
  subst ho; have := rowI h hp 0 i; rw [allI]; exact this
theorem rowDrop {b : Nat} {cs : Array Value} {T : TypeId} {R : List Part} {xs : List Int} (h : cs.toList.take (xs.length * encI.sz) = encI.all xs) (hp : pt b (.cells cs T) ∈ R) {o i : Nat} (ho : o = i) : RowIn R b o ((xs.drop i).map fun x => Value.int .i64 x) := by
  subst ho; have := rowI h hp o (xs.length - o); rw [List.take_of_length_le (by simp)] at this; exact this
theorem rowAll {b : Nat} {cs : Array Value} {T : TypeId} {R : List Part} {xs : List Int} (h : cs.toList.take (xs.length * encI.sz) = encI.all xs) (hp : pt b (.cells cs T) ∈ R) : RowIn R b 0 (xs.map fun x => Value.int .i64 x) := rowDrop (i := 0) h hp rfl
theorem oneI (xs : List Int) : ∀ v ∈ xs.map (fun x => Value.int .i64 x), v.oneCell' = true := by
  intro v hv; obtain ⟨x, _, rfl⟩ := List.mem_map.1 hv; rfl
theorem Insert_spec {e : Env} {w : World} {rs : List Part} (xs : List Int) (i : Nat) (y : Int) (v1 v2 : Value) (x x2 : Part) (hS : Sl encI 2 v1 xs x) (hS2 : Sl encI 2 v2 [y] x2) (hi : i ≤ xs.length) (hlen : xs.length ≤ 1000) (hT : Tot e w ([x, x2] ++ rs)) : Spec Try.prog 51 #[v1, .int .i64 (i : Nat), v2] e w rs (fun v L => ∃ X, Sl encI 2 v (xs.take i ++ [y] ++ xs.drop i) X ∧ L = [X]) := by
  refine spec_body Try.func51 rfl Try.ntmps51 rfl rfl ?_
  intro a hf
  obtain ⟨A0, c0, hv1, hc0⟩ := hS.shape
  refine wpIn_seq ?_
  -- region 0 (slices.go:136)
  refine wp_reg ([]) ([_, _] ++ rs) [(0, true)] mixed (by kernel_rfl) (hT) ?_; intro w hT
  refine rd hf rfl (yl_assign rfl) rfl rfl ?_; intro a hf
  refine plan_nil ?_
  refine wpIn_seq ?_
  -- region 1 (slices.go:137)
  refine wp_reg ([]) ([_, _] ++ rs) [(0, true), (1, true), (2, true)] mixed (by kernel_rfl) (hT) ?_; intro w hT
  refine rd hf rfl (yl_move rfl) rfl rfl ?_; intro a hf
  refine rd hf rfl (yl_move rfl) rfl rfl ?_; intro a hf
  refine rd hf rfl (yl_slice (L := i) (H := xs.length) (A := A0) (c := c0) (congrArg some hv1) Try.underlying37 sz_2 (idxI rfl) rfl hi (by omega)) rfl rfl ?_; intro a hf
  refine plan_nil ?_
  replace hf := hf.sel [0, 1, 2] (l' := [(0, _), (1, _), (2, _)]) rfl
  refine wpIn_seq ?_
  -- region 2 (slices.go:139)
  refine wp_reg ([]) ([_, _] ++ rs) [(0, true), (1, true), (2, true)] mixed (by kernel_rfl) (hT) ?_; intro w hT
  refine rd hf rfl (yl_move rfl) rfl rfl ?_; intro a hf
  refine rd hf rfl (yl_lenE rfl Try.underlying37 (hS2.els (.tail _ (.head _)))) rfl rfl ?_; intro a hf
  refine rd hf rfl (yl_assign rfl) rfl rfl ?_; intro a hf
  refine plan_nil ?_
  refine wpIn_seq ?_
  refine wpIn_seq ?_
  -- region 3 (slices.go:140)
  refine wp_reg ([]) ([_, _] ++ rs) [(0, true), (1, true)] mixed (by kernel_rfl) (hT) ?_; intro w hT
  refine rd hf rfl (yl_move rfl) rfl rfl ?_; intro a hf
  refine rd hf rfl (yl_cmp rfl rfl rfl) rfl rfl ?_; intro a hf
  refine plan_nil ?_
  replace hf := hf.sel [16, 7, 0, 1, 2] (l' := [(16, _), (7, _), (0, _), (1, _), (2, _)]) rfl
  refine wp_ifd hf rfl (fun h0 => ?_) (fun h0 => ?_)
  · -- then
    exact absurd h0 (by simp)
  · -- else
    refine wpIn_skip ?_
    refine wpIn_seq ?_
    -- region 5 (slices.go:143)
    refine wp_reg ([]) ([_, _] ++ rs) [(0, true), (1, true), (2, true)] mixed (by kernel_rfl) (hT) ?_; intro w hT
    refine rd hf rfl (yl_move rfl) rfl rfl ?_; intro a hf
    refine rd hf rfl (yl_lenE rfl Try.underlying37 (hS.els (.head _))) rfl rfl ?_; intro a hf
    refine rd hf rfl (yl_assign rfl) rfl rfl ?_; intro a hf
    refine plan_nil ?_
    replace hf := hf.sel [8, 7, 0, 1, 2] (l' := [(8, _), (7, _), (0, _), (1, _), (2, _)]) rfl
    refine wpIn_seq ?_
    refine wpIn_seq ?_
    -- region 6 (slices.go:144)
    refine wp_reg ([]) ([_, _] ++ rs) [(0, true), (1, true), (2, true)] mixed (by kernel_rfl) (hT) ?_; intro w hT
    refine rd hf rfl (yl_move rfl) rfl rfl ?_; intro a hf
    refine rd hf rfl (yl_move rfl) rfl rfl ?_; intro a hf
    refine rd hf rfl (yl_cmp rfl rfl rfl) rfl rfl ?_; intro a hf
    refine plan_nil ?_
    refine wp_ifd hf rfl (fun hin => ?_) (fun hin => ?_)
    · -- then
      have hil : i = xs.length := by omega
      refine wpIn_seq ?_
      -- region 7 (slices.go:145)
      refine wp_reg ([_]) ([_] ++ rs) [(0, true), (1, true), (2, false), (3, true)] mixed (by kernel_rfl) (hT.brings [0]) ?_; intro w hT
      refine rd hf rfl (yl_move rfl) rfl rfl ?_; intro a hf
      refine rd hf rfl (yl_move rfl) rfl rfl ?_; intro a hf
      refine ef hf hT rfl rfl (ef_append (E := encI) (L := []) rfl rfl Try.underlying37 zb_2 rfl hS (hS2.els (.tail _ (.head _))) (by simp; omega) (by simp [maxLen]; omega)) rfl (l' := [(24, _), (23, _), (22, _), (21, _), (20, _), (8, _), (7, _), (0, _), (1, _), (2, _)]) rfl ?_; rintro a w vout L ⟨X1, hS1, rfl⟩ hf hT
      refine rd hf rfl (yl_assign rfl) rfl rfl ?_; intro a hf
      refine plan_nil ?_
      replace hf := hf.sel [6] (l' := [(6, _)]) rfl
      refine wpIn_ret ?_
      exact body_ret hf (L := [_]) ((hT.brings [1]).tail) rfl rfl ⟨_, by subst hil; simpa [retv] using hS1, rfl⟩
    · -- else
      have hlt : i < xs.length := by omega
      rcases hS with ⟨_, hx0, _⟩ | ⟨b, c, cs, rfl, rfl, hc1, hc2, hc3, hc4⟩
      · rw [hx0] at hlt; simp at hlt
      rcases hS2 with ⟨_, hx0, _⟩ | ⟨b2, c2, cs2, rfl, rfl, hd1, hd2, hd3, hd4⟩
      · cases hx0
      have e1 : ([y] : List Int).length = 1 := rfl
      have hc3' : cs.size = c := by rw [hc3]; exact Nat.mul_one c
      have hne : b2 ≠ b := by
        intro hb; subst hb; rcases (List.pairwise_cons.1 (show (pt b2 (.cells cs 2) :: pt b2 (.cells cs2 2) :: rs).Pairwise Apart from hT.apart)).1 _ (.head _) b2 with h | h <;> simp [pt] at h
      refine wpIn_skip ?_
      refine wpIn_seq ?_
      refine wpIn_seq ?_
      -- region 8 (slices.go:147)
      refine wp_reg ([]) ([_, _] ++ rs) [(0, true), (1, true), (2, true), (3, true), (4, true), (5, true)] mixed (by kernel_rfl) (hT) ?_; intro w hT
      refine rd hf rfl (yl_move rfl) rfl rfl ?_; intro a hf
      refine rd hf rfl (yl_move rfl) rfl rfl ?_; intro a hf
      refine rd hf rfl (yl_add rfl rfl (by unfold inI64; omega)) rfl rfl ?_; intro a hf
      refine rd hf rfl (yl_move rfl) rfl rfl ?_; intro a hf
      refine rd hf rfl (yl_cap rfl Try.underlying37) rfl rfl ?_; intro a hf
      refine rd hf rfl (yl_cmp rfl rfl rfl) rfl rfl ?_; intro a hf
      refine plan_nil ?_
      replace hf := hf.sel [31, 8, 7, 0, 1, 2] (l' := [(31, _), (8, _), (7, _), (0, _), (1, _), (2, _)]) rfl
      refine wp_ifd hf rfl (fun hgt => ?_) (fun hgt => ?_)
      · -- then
        refine wpIn_seq ?_
        -- region 9 (slices.go:152)
        refine wp_reg ([]) ([_, _] ++ rs) [(0, true), (1, true), (2, true), (3, true), (4, true), (5, true), (6, true), (7, true), (8, false), (9, true)] mixed (by kernel_rfl) (hT) ?_; intro w hT
        refine rd hf rfl (yl_move rfl) rfl rfl ?_; intro a hf
        refine rd hf rfl (yl_move rfl) rfl rfl ?_; intro a hf
        refine rd hf rfl (yl_sliceAt (L := 0) (H := i) rfl Try.underlying37 sz_2 rfl (idxI rfl) (Nat.zero_le _) (by omega) (by omega)) rfl rfl ?_; intro a hf
        refine rd hf rfl (yl_move rfl) rfl rfl ?_; intro a hf
        refine rd hf rfl (yl_move rfl) rfl rfl ?_; intro a hf
        refine rd hf rfl (yl_add rfl rfl (by unfold inI64; omega)) rfl rfl ?_; intro a hf
        refine rd hf rfl (yl_move rfl) rfl rfl ?_; intro a hf
        refine rd hf rfl (yl_sub rfl rfl (by unfold inI64; omega)) rfl rfl ?_; intro a hf
        refine ef hf hT rfl rfl (ef_appendZ (E := encI) (b := b) (o := 0 + 0 * 1) (n := i) (c := c) (m := xs.length + 1 - i) (xs := xs.take i) (za := 0) rfl (show some (Value.int IntKind.i64 _) = some (Value.int IntKind.i64 ((xs.length + 1 - i : Nat) : Int)) from by congr 2; omega) Try.underlying37 Try.underlying3 zb_2 rfl (by simp; omega) (rowTake hc4 (.head _) (by omega) i) (by omega) (by omega) (by simp [maxLen]; omega)) rfl (l' := [(39, _), (38, _), (37, _), (36, _), (35, _), (34, _), (33, _), (32, _), (31, _), (8, _), (7, _), (0, _), (1, _), (2, _)]) rfl ?_; rintro a w v L ⟨b', c', cs', rfl, hg1, hg2, hg3, hg4, rfl⟩ hf hT
        have hg3' : cs'.size = c' := by rw [hg3]; exact Nat.mul_one c'
        rw [show i + (xs.length + 1 - i) = xs.length + 1 by omega] at hf hg1
        refine rd hf rfl (yl_assign rfl) rfl rfl ?_; intro a hf
        refine plan_nil ?_
        replace hf := hf.sel [9, 7, 0, 1, 2] (l' := [(9, _), (7, _), (0, _), (1, _), (2, _)]) rfl
        refine wpIn_seq ?_
        -- region 10 (slices.go:153)
        refine wp_reg ([_]) ([_, _] ++ rs) [(0, true), (1, true), (2, true), (3, true), (4, false)] mixed (by kernel_rfl) (hT.brings [0]) ?_; intro w hT
        refine rd hf rfl (yl_move rfl) rfl rfl ?_; intro a hf
        refine rd hf rfl (yl_move rfl) rfl rfl ?_; intro a hf
        refine rd hf rfl (yl_sliceAt (L := i) (H := (xs.length + 1)) rfl Try.underlying37 sz_2 (idxI rfl) rfl (by omega) (by omega) (by omega)) rfl rfl ?_; intro a hf
        refine rd hf rfl (yl_move rfl) rfl rfl ?_; intro a hf
        refine ef hf hT rfl rfl (ef_copy (b := b') (o := 0 + i * 1) (dn := xs.length + 1 - i) (dc := c' - i) (cs := cs') (sb := b2) (so := 0) (sn := 1) (sc := c2) (k := 1) (src := ([y].map fun x => Value.int .i64 x)) rfl rfl Try.underlying37 sz_2 (by omega) (by simp) (rowAll hd4 (.tail _ (.tail _ (.head _)))) (by simp; omega) (oneI _)) rfl (l' := [(44, _), (43, _), (42, _), (41, _), (9, _), (7, _), (0, _), (1, _), (2, _)]) rfl ?_; rintro a w v L ⟨rfl, rfl⟩ hf hT
        refine plan_nil ?_
        replace hf := hf.sel [9, 7, 0, 1] (l' := [(9, _), (7, _), (0, _), (1, _)]) rfl
        refine wpIn_seq ?_
        -- region 11 (slices.go:154)
        refine wp_reg ([_]) ([_, _] ++ rs) [(0, true), (1, true), (2, true), (3, true), (4, true), (5, true), (6, true), (7, true), (8, false)] mixed (by kernel_rfl) (hT.brings [0]) ?_; intro w hT
        refine rd hf rfl (yl_move rfl) rfl rfl ?_; intro a hf
        refine rd hf rfl (yl_move rfl) rfl rfl ?_; intro a hf
        refine rd hf rfl (yl_move rfl) rfl rfl ?_; intro a hf
        refine rd hf rfl (yl_add rfl rfl (by unfold inI64; omega)) rfl rfl ?_; intro a hf
        refine rd hf rfl (yl_sliceAt (L := (i + 1)) (H := (xs.length + 1)) rfl Try.underlying37 sz_2 (idxI (by omega)) rfl (by omega) (by omega) (by omega)) rfl rfl ?_; intro a hf
        refine rd hf rfl (yl_move rfl) rfl rfl ?_; intro a hf
        refine rd hf rfl (yl_move rfl) rfl rfl ?_; intro a hf
        refine rd hf rfl (yl_sliceAt (L := i) (H := xs.length) rfl Try.underlying37 sz_2 (idxI rfl) rfl (by omega) (by omega) (by omega)) rfl rfl ?_; intro a hf
        refine ef hf hT rfl rfl (ef_copy (b := b') (o := 0 + (i + 1) * 1) (dn := xs.length + 1 - (i + 1)) (dc := c' - (i + 1)) (cs := _) (sb := b) (so := 0 + i * 1) (sn := xs.length - i) (sc := c - i) (k := xs.length - i) (src := ((xs.drop i).map fun x => Value.int .i64 x)) rfl rfl Try.underlying37 sz_2 (by omega) (by simp) (rowDrop hc4 (.tail _ (.head _)) (by omega)) (by rw [List.size_toArray, splice_length (by simp; omega)]; simp; omega) (oneI _)) rfl (l' := [(53, _), (52, _), (51, _), (50, _), (49, _), (48, _), (47, _), (46, _), (9, _), (7, _), (0, _), (1, _)]) rfl ?_; rintro a w v L ⟨rfl, rfl⟩ hf hT
        refine plan_nil ?_
        replace hf := hf.sel [9] (l' := [(9, _)]) rfl
        refine wpIn_seq ?_
        -- region 12 (slices.go:155)
        refine wp_reg ([]) ([_, _, _] ++ rs) [(0, true), (1, true)] mixed (by kernel_rfl) (hT) ?_; intro w hT
        refine rd hf rfl (yl_move rfl) rfl rfl ?_; intro a hf
        refine rd hf rfl (yl_assign rfl) rfl rfl ?_; intro a hf
        refine plan_nil ?_
        refine wpIn_ret ?_
        refine body_ret hf (L := [_]) ((hT.brings [2, 2]).tail.tail) rfl rfl ⟨_, .inr ⟨b', c', _, ?_, rfl, by simp; omega, hg2, ?_, ?_⟩, rfl⟩
        · simp only [retv, List.length_append, List.length_take, List.length_drop, e1]; congr 1; omega
        · simp only [List.size_toArray]; rw [splice_length (by rw [splice_length (by simp; omega)]; simp; omega), splice_length (by simp; omega), Array.length_toList, hg3]
        · rw [allI] at hg4; simp only [show encI.sz = 1 from rfl, Nat.mul_one, Nat.zero_add] at hg4 ⊢
          rw [allI, show (xs.take i ++ [y] ++ xs.drop i).length = xs.length + 1 by simp; omega]
          refine (splice_ins (c := cs'.toList) (n := xs.length) (by omega) (by simp) (by rw [show cs'.toList.length = cs'.size from rfl]; omega)).trans ?_
          rw [hg4]; simp
      · -- else
        refine wpIn_skip ?_
        refine wpIn_seq ?_
        -- region 13 (slices.go:157)
        refine wp_reg ([]) ([_, _] ++ rs) [(0, true), (1, true), (2, true), (3, true), (4, true), (5, true)] mixed (by kernel_rfl) (hT) ?_; intro w hT
        refine rd hf rfl (yl_move rfl) rfl rfl ?_; intro a hf
        refine rd hf rfl (yl_move rfl) rfl rfl ?_; intro a hf
        refine rd hf rfl (yl_move rfl) rfl rfl ?_; intro a hf
        refine rd hf rfl (yl_add rfl rfl (by unfold inI64; omega)) rfl rfl ?_; intro a hf
        refine rd hf rfl (yl_sliceAt (L := 0) (H := (xs.length + 1)) rfl Try.underlying37 sz_2 rfl (idxI (by omega)) (Nat.zero_le _) (by omega) (by omega)) rfl rfl ?_; intro a hf
        refine rw_ hf rfl (yl_assign rfl) rfl (l' := [(0, _), (60, _), (59, _), (58, _), (57, _), (56, _), (31, _), (8, _), (7, _), (1, _), (2, _)]) rfl ?_; intro a hf
        refine plan_nil ?_
        replace hf := hf.sel [0, 8, 7, 1, 2] (l' := [(0, _), (8, _), (7, _), (1, _), (2, _)]) rfl
        refine wpIn_seq ?_
        refine wpIn_seq ?_
        -- region 14 (slices.go:173)
        refine wp_reg ([]) ([_, _] ++ rs) [(0, true), (1, true), (2, true), (3, true), (4, true), (5, true), (6, true), (7, true)] mixed (by kernel_rfl) (hT) ?_; intro w hT
        refine rd hf rfl (yl_move rfl) rfl rfl ?_; intro a hf
        refine rd hf rfl (yl_move rfl) rfl rfl ?_; intro a hf
        refine rd hf rfl (yl_move rfl) rfl rfl ?_; intro a hf
        refine rd hf rfl (yl_move rfl) rfl rfl ?_; intro a hf
        refine rd hf rfl (yl_add rfl rfl (by unfold inI64; omega)) rfl rfl ?_; intro a hf
        refine rd hf rfl (yl_sliceAt (L := (i + 1)) (H := (xs.length + 1)) rfl Try.underlying37 sz_2 (idxI (by omega)) rfl (by omega) (by omega) (by omega)) rfl rfl ?_; intro a hf
        refine rd hf rfl (yl_extern (ex := Extern.SlicesOverlaps.overlaps #[37, 37] #[4]) rfl rfl Try.func89 (by kernel_rfl) (by kernel_rfl) (by kernel_rfl) (by kernel_rfl) (run_overlaps Try.underlying37 sz_2 (.tail _ (.head _)) (.head _) (pt_self _ _) (pt_self _ _) hne (by omega))) rfl rfl ?_; intro a hf
        refine rd hf rfl (yl_not rfl) rfl rfl ?_; intro a hf
        refine plan_nil ?_
        replace hf := hf.sel [68, 0, 8, 7, 1, 2] (l' := [(68, _), (0, _), (8, _), (7, _), (1, _), (2, _)]) rfl
        refine wp_ifTT hf rfl (rfl) ?_
        refine wpIn_seq ?_
        -- region 15 (slices.go:178)
        refine wp_reg ([_]) ([_] ++ rs) [(0, true), (1, true), (2, true), (3, true), (4, true), (5, true), (6, true), (7, true), (8, false)] mixed (by kernel_rfl) (hT.brings [0]) ?_; intro w hT
        refine rd hf rfl (yl_move rfl) rfl rfl ?_; intro a hf
        refine rd hf rfl (yl_move rfl) rfl rfl ?_; intro a hf
        refine rd hf rfl (yl_move rfl) rfl rfl ?_; intro a hf
        refine rd hf rfl (yl_add rfl rfl (by unfold inI64; omega)) rfl rfl ?_; intro a hf
        refine rd hf rfl (yl_sliceAt (L := (i + 1)) (H := (xs.length + 1)) rfl Try.underlying37 sz_2 (idxI (by omega)) rfl (by omega) (by omega) (by omega)) rfl rfl ?_; intro a hf
        refine rd hf rfl (yl_move rfl) rfl rfl ?_; intro a hf
        refine rd hf rfl (yl_move rfl) rfl rfl ?_; intro a hf
        refine rd hf rfl (yl_sliceAt (L := i) (H := (xs.length + 1)) rfl Try.underlying37 sz_2 (idxI rfl) rfl (by omega) (by omega) (by omega)) rfl rfl ?_; intro a hf
        refine ef hf hT rfl rfl (ef_copy (b := b) (o := 0 + 0 * 1 + (i + 1) * 1) (dn := xs.length + 1 - 0 - (i + 1)) (dc := c - 0 - (i + 1)) (cs := cs) (sb := b) (so := 0 + 0 * 1 + i * 1) (sn := xs.length + 1 - 0 - i) (sc := c - 0 - i) (k := xs.length - i) (src := ((xs.drop i).map fun x => Value.int .i64 x)) rfl rfl Try.underlying37 sz_2 (by omega) (by simp) (rowDrop hc4 (.head _) (by omega)) (by simp; omega) (oneI _)) rfl (l' := [(76, _), (75, _), (74, _), (73, _), (72, _), (71, _), (70, _), (69, _), (68, _), (0, _), (8, _), (7, _), (1, _), (2, _)]) rfl ?_; rintro a w v L ⟨rfl, rfl⟩ hf hT
        refine plan_nil ?_
        replace hf := hf.sel [0, 1, 2] (l' := [(0, _), (1, _), (2, _)]) rfl
        refine wpIn_seq ?_
        -- region 16 (slices.go:186)
        refine wp_reg ([_]) ([_] ++ rs) [(0, true), (1, true), (2, true), (3, true), (4, false)] mixed (by kernel_rfl) (hT.brings [0]) ?_; intro w hT
        refine rd hf rfl (yl_move rfl) rfl rfl ?_; intro a hf
        refine rd hf rfl (yl_move rfl) rfl rfl ?_; intro a hf
        refine rd hf rfl (yl_sliceAt (L := i) (H := (xs.length + 1)) rfl Try.underlying37 sz_2 (idxI rfl) rfl (by omega) (by omega) (by omega)) rfl rfl ?_; intro a hf
        refine rd hf rfl (yl_move rfl) rfl rfl ?_; intro a hf
        refine ef hf hT rfl rfl (ef_copy (b := b) (o := 0 + 0 * 1 + i * 1) (dn := xs.length + 1 - 0 - i) (dc := c - 0 - i) (cs := _) (sb := b2) (so := 0) (sn := 1) (sc := c2) (k := 1) (src := ([y].map fun x => Value.int .i64 x)) rfl rfl Try.underlying37 sz_2 (by omega) (by simp) (rowAll hd4 (.tail _ (.head _))) (by rw [List.size_toArray, splice_length (by simp; omega)]; simp; omega) (oneI _)) rfl (l' := [(81, _), (80, _), (79, _), (78, _), (0, _), (1, _), (2, _)]) rfl ?_; rintro a w v L ⟨rfl, rfl⟩ hf hT
        refine plan_nil ?_
        replace hf := hf.sel [0] (l' := [(0, _)]) rfl
        refine wpIn_seq ?_
        -- region 17 (slices.go:193)
        refine wp_reg ([]) ([_, _] ++ rs) [(0, true), (1, true)] mixed (by kernel_rfl) (hT) ?_; intro w hT
        refine rd hf rfl (yl_move rfl) rfl rfl ?_; intro a hf
        refine rd hf rfl (yl_assign rfl) rfl rfl ?_; intro a hf
        refine plan_nil ?_
        refine wpIn_ret ?_
        refine body_ret hf (L := [_]) ((hT.brings [1]).tail) rfl rfl ⟨_, .inr ⟨b, c, _, ?_, rfl, by simp; omega, hc2, ?_, ?_⟩, rfl⟩
        · simp only [retv, List.length_append, List.length_take, List.length_drop, e1]; congr 1; omega
        · simp only [List.size_toArray]; rw [splice_length (by rw [splice_length (by simp; omega)]; simp; omega), splice_length (by simp; omega), Array.length_toList, hc3]
        · rw [allI] at hc4; simp only [show encI.sz = 1 from rfl, Nat.mul_one, Nat.zero_add] at hc4 ⊢
          rw [allI, show (xs.take i ++ [y] ++ xs.drop i).length = xs.length + 1 by simp; omega]
          refine (splice_ins2 (c := cs.toList) (n := xs.length) (by omega) (by simp) (by rw [show cs.toList.length = cs.size from rfl]; omega)).trans ?_
          have h5 : cs.toList.take i = (xs.take i).map fun x => Value.int .i64 x := by rw [List.map_take, ← hc4, List.take_take]; congr 1; omega
          rw [h5]; simp
end Go.Proofs.Ytjhbgciocffihaa
