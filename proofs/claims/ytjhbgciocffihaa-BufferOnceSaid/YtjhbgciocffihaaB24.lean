-- written by gen.py out of walks texts of my own
import Derived.Test.YtjhbgciocffihaaB23
set_option linter.unusedVariables false
set_option linter.unusedSimpArgs false
set_option maxHeartbeats 4000000
namespace Go.Proofs.Ytjhbgciocffihaa
theorem Has_spec0 {e : Env} {w : World} {rs : List Part} (S : List Sp) (v0 : Value) (hE : Els encSp rs v0 S) (h0 : setE S = 0) (x : Int) (hT : Tot e w rs) : Spec Try.prog 43 #[v0, .int .i64 x] e w rs (fun v L => v = .tuple #[.bool (inS S x), .int .i64 0] ∧ L = []) :=
  (Has_spec S v0 hE x hT).mono fun v L h => by rw [if_pos h0] at h; exact h
/-- The first k records are asked. -/
def ackTo (S : List Sp) (s : BS) (k : Nat) : BS := { s with used := s.used - sumB ((s.L.take k).filter fun h => inS S h.r.id), L := (s.L.take k).filter (fun h => !inS S h.r.id) ++ s.L.drop k }
theorem ackTo_zero (S : List Sp) (s : BS) : ackTo S s 0 = s := by
  obtain ⟨c, u, t, L⟩ := s
  simp [ackTo, sumB]
theorem sumB_append (L M : List Hld) : sumB (L ++ M) = sumB L + sumB M := by
  induction L with
  | nil => simp [sumB]
  | cons x L ih => rw [List.cons_append, sumB_cons, sumB_cons, ih]; omega
theorem ackTo_no {S : List Sp} {s : BS} {k : Nat} (hk : k < s.L.length) (h : inS S s.L[k].r.id = false) : ackTo S s (k + 1) = ackTo S s k := by
  simp only [ackTo, List.take_succ_eq_append_getElem hk, List.filter_append]
  rw [List.drop_eq_getElem_cons hk]
  simp [h]
theorem ackTo_sub (S : List Sp) (s : BS) (k : Nat) : (ackTo S s k).L.Sublist s.L := by
  have h1 : (ackTo S s k).L.Sublist (s.L.take k ++ s.L.drop k) := (List.filter_sublist).append (List.Sublist.refl _)
  rwa [List.take_append_drop] at h1
theorem ackTo_used (S : List Sp) {s : BS} (h : s.used = sumB s.L) (k : Nat) : (ackTo S s k).used = sumB (ackTo S s k).L := by
  have key : ∀ M : List Hld, sumB M = sumB (M.filter fun h => inS S h.r.id) + sumB (M.filter fun h => !inS S h.r.id) := by
    intro M
    induction M with
    | nil => rfl
    | cons x M ih =>
      cases hx : inS S x.r.id
      · rw [List.filter_cons_of_neg (by simp [hx]), List.filter_cons_of_pos (by simp [hx]), sumB_cons, sumB_cons, ih]; omega
      · rw [List.filter_cons_of_pos (by simp [hx]), List.filter_cons_of_neg (by simp [hx]), sumB_cons, sumB_cons, ih]; omega
  show s.used - _ = sumB (_ ++ _)
  rw [sumB_append, h]
  have h1 := key (s.L.take k)
  have h2 := sumB_append (s.L.take k) (s.L.drop k)
  rw [List.take_append_drop] at h2
  omega
theorem Inv.ackTo {s : BS} (hI : Inv s) (S : List Sp) (k : Nat) : Inv (Ytjhbgciocffihaa.ackTo S s k) := by
  have hs := ackTo_sub S s k
  exact ⟨hI.nd.sublist (hs.map _), fun h hh => hI.ok h (hs.subset hh), ackTo_used S hI.us k, hI.cp, hI.srt.sublist hs⟩
theorem fnd_ackTo {s : BS} (hI : Inv s) (S : List Sp) {k : Nat} (hk : k < s.L.length) : fnd (ackTo S s k).L s.L[k].r.id = some s.L[k] :=
  fnd_of_mem (hI.ackTo S k).nd (List.mem_append_right _ (by rw [List.drop_eq_getElem_cons hk]; exact List.mem_cons_self ..))
theorem ackTo_yes {S : List Sp} {s : BS} (hI : Inv s) {k : Nat} (hk : k < s.L.length) (h : inS S s.L[k].r.id = true) : drp (ackTo S s k) s.L[k] = ackTo S s (k + 1) := by
  have hn := (hI.ackTo S k).nd
  have e0 : (ackTo S s k).L = (s.L.take k).filter (fun h => !inS S h.r.id) ++ s.L[k] :: s.L.drop (k + 1) := by rw [← List.drop_eq_getElem_cons hk]; rfl
  have e1 : (ackTo S s (k + 1)).L = (s.L.take k).filter (fun h => !inS S h.r.id) ++ s.L.drop (k + 1) := by
    simp only [ackTo, List.take_succ_eq_append_getElem hk, List.filter_append]
    simp [h]
  have e2 : (ackTo S s (k + 1)).used = (ackTo S s k).used - s.L[k].bytes := by
    simp only [ackTo, List.take_succ_eq_append_getElem hk, List.filter_append, sumB_append]
    simp only [List.filter_cons, h, if_true, List.filter_nil]
    rw [sumB_cons]; simp only [show sumB [] = 0 from rfl]; omega
  have e3 : (ackTo S s k).L.filter (fun x => decide (x.r.id ≠ s.L[k].r.id)) = (ackTo S s (k + 1)).L := by
    rw [e1, e0, List.filter_append, List.filter_cons_of_neg (by simp)]
    rw [e0] at hn
    simp only [ids, List.map_append, List.map_cons] at hn
    have h1 := List.nodup_append.1 hn
    have h2 := List.nodup_cons.1 h1.2.1
    have hB : (s.L.drop (k + 1)).filter (fun x => decide (x.r.id ≠ s.L[k].r.id)) = s.L.drop (k + 1) := List.filter_eq_self.2 fun x hx => by
      have : x.r.id ≠ s.L[k].r.id := fun he => h2.1 (he ▸ List.mem_map_of_mem (f := fun h => h.r.id) hx)
      simpa using this
    have hA : ((s.L.take k).filter (fun h => !inS S h.r.id)).filter (fun x => decide (x.r.id ≠ s.L[k].r.id)) = (s.L.take k).filter (fun h => !inS S h.r.id) := List.filter_eq_self.2 fun x hx => by
      have : x.r.id ≠ s.L[k].r.id := h1.2.2 _ (List.mem_map_of_mem (f := fun h => h.r.id) hx) _ (List.mem_cons_self ..)
      simpa using this
    rw [hA, hB]
  show ({ (ackTo S s k) with used := _, L := _ } : BS) = _
  rw [e3, ← e2]; rfl
theorem ackTo_none {S : List Sp} {s : BS} : ∀ k, k ≤ s.L.length → (∀ m (hm : m < s.L.length), m < k → inS S s.L[m].r.id = false) → ackTo S s k = s
  | 0, _, _ => ackTo_zero S s
  | k + 1, hk, h => by
    rw [ackTo_no (by omega) (h k (by omega) (by omega))]
    exact ackTo_none k (by omega) fun m hm hmk => h m hm (by omega)
theorem ackTo_len (S : List Sp) (s : BS) (k : Nat) : (ackTo S s k).L.length ≤ s.L.length := (ackTo_sub S s k).length_le
theorem mem4' {α : Type} {x a b c d : α} (h : x ∈ [a, b, c, d]) : x = a ∨ x = b ∨ x = c ∨ x = d := by simpa using h
theorem BufM.four {b : Nat} {s : BS} {vo : Value} {L : List Part} (h : BufM b s vo L) : ∃ x0 x1 x2 x3, L = [x0, x1, x2, x3] := by
  obtain ⟨br, xr, bs, xs, bt, xt, mr, ms, mt, rfl, _⟩ := h
  exact ⟨_, _, _, _, rfl⟩
theorem Ack1_spec {e : Env} {w : World} {rs : List Part} (bb1 bb2 b : Nat) (s : BS) (vo sv : Value) (Lb : List Part) (hB : BufM b s vo Lb) (S : List Sp) (hE : Els encSp rs sv S) (hset : setE S = 0) (hbox1 : RowIn rs bb1 0 [sv]) (hbox2 : RowIn rs bb2 0 [.pointer (some ⟨b, 0, none⟩)]) (id : Int) (h : Hld) (hh : fnd s.L id = some h) (hbd : inI64 (s.used - h.bytes)) (hT : Tot e w (Lb ++ rs)) : Spec Try.prog 62 #[.int .i64 id, .pointer (some ⟨bb1, 0, none⟩), .pointer (some ⟨bb2, 0, none⟩)] e w rs (fun v L => v = .bool (inS S id) ∧ BufM b (if inS S id = true then drp s h else s) vo L) := by
  refine spec_body Try.func62 rfl Try.ntmps62 rfl rfl ?_
  intro a hf
  obtain rfl : h.r.id = id := (fnd_mem hh).2
  obtain ⟨x0, x1, x2, x3, rfl⟩ := hB.four
  refine wpIn_seq ?_
  -- region 0 (buffer.go:181)
  refine wp_reg ([]) ([_, _, _, _] ++ rs) [(0, true)] mixed (by kernel_rfl) (hT) ?_; intro w hT
  refine rd hf rfl (yl_assign rfl) rfl rfl ?_; intro a hf
  refine plan_nil ?_
  refine wpIn_seq ?_
  -- region 1 (buffer.go:182)
  refine wp_reg ([]) ([_, _, _, _] ++ rs) [(0, true), (1, true), (2, false), (3, true), (4, true), (5, true), (6, true), (7, true)] mixed (by kernel_rfl) (hT) ?_; intro w hT
  refine rd hf rfl (yl_load Try.underlying58 rfl rfl (hbox1 0 _ rfl).app) rfl rfl ?_; intro a hf
  refine rd hf rfl (yl_move rfl) rfl rfl ?_; intro a hf
  refine ef_call hf rfl (wanted_none _ _ rfl) rfl rfl (by kernel_rfl) (Spec.frame (L2 := []) (Has_spec0 S sv hE.app hset h.r.id hT)) rfl (l' := [(9, _), (8, _), (4, _), (0, _), (1, _), (2, _)]) rfl ?_; rintro a w v L ⟨L1, ⟨rfl, rfl⟩, rfl⟩ hf hT
  refine rd hf rfl (yl_move rfl) rfl rfl ?_; intro a hf
  refine rd hf rfl (yl_extract rfl rfl) rfl rfl ?_; intro a hf
  refine rd hf rfl (yl_extract rfl rfl) rfl rfl ?_; intro a hf
  refine rd hf rfl (yl_assign rfl) rfl rfl ?_; intro a hf
  refine rd hf rfl (yl_assign rfl) rfl rfl ?_; intro a hf
  refine plan_nil ?_
  replace hf := hf.sel [5, 0, 2] (l' := [(5, _), (0, _), (2, _)]) rfl
  refine wpIn_seq ?_
  refine wpIn_seq ?_
  -- region 2 (buffer.go:183)
  refine wp_reg ([]) ([_, _, _, _] ++ rs) [(0, true)] mixed (by kernel_rfl) (hT) ?_; intro w hT
  refine rd hf rfl (yl_move rfl) rfl rfl ?_; intro a hf
  refine plan_nil ?_
  refine wp_if hf rfl (fun hin => ?_) (fun hin => ?_)
  · -- then
    -- region 3 (buffer.go:184)
    refine wp_reg ([]) ([_, _, _, _] ++ rs) [(0, true), (1, true), (2, false)] mixed (by kernel_rfl) (hT) ?_; intro w hT
    refine rd hf rfl (yl_load Try.underlying25 rfl rfl (hbox2 0 _ rfl).app) rfl rfl ?_; intro a hf
    refine rd hf rfl (yl_move rfl) rfl rfl ?_; intro a hf
    replace hT : Tot _ _ ([_] ++ ([_, _, _] ++ rs)) := hT.bring 3
    replace hT : Tot _ _ ([_, _] ++ ([_, _] ++ rs)) := hT.bring 3
    replace hT : Tot _ _ ([_, _, _] ++ ([_] ++ rs)) := hT.bring 3
    replace hT : Tot _ _ ([_, _, _, _] ++ ([] ++ rs)) := hT.bring 3
    refine ef_call_last hf rfl (wanted_none _ _ rfl) (by kernel_rfl) rfl rfl (by kernel_rfl) (Spec.frame (L2 := []) (remove_spec b s vo _ hB h.r.id h hh hbd hT)) rfl (l' := [(15, _), (14, _), (13, _), (5, _), (0, _), (2, _)]) rfl ?_; rintro a w v L ⟨L1, ⟨Lb3, hB3, rfl⟩, rfl⟩ hf hT
    obtain ⟨x0, x1, x2, x3, rfl⟩ := hB3.four
    replace hf := hf.sel [5] (l' := [(5, _)]) rfl
    refine wpIn_seq ?_
    -- region 4 (buffer.go:186)
    refine wp_reg ([]) ([_, _, _, _] ++ rs) [(0, true), (1, true)] mixed (by kernel_rfl) (hT) ?_; intro w hT
    refine rd hf rfl (yl_move rfl) rfl rfl ?_; intro a hf
    refine rd hf rfl (yl_assign rfl) rfl rfl ?_; intro a hf
    refine plan_nil ?_
    refine wpIn_ret ?_
    exact body_ret hf (L := [_, _, _, _]) (hT) rfl rfl ⟨rfl, by rw [hin, if_pos rfl]; exact hB3⟩
  · -- else
    refine wpIn_skip ?_
    refine wpIn_seq ?_
    -- region 4 (buffer.go:186)
    refine wp_reg ([]) ([_, _, _, _] ++ rs) [(0, true), (1, true)] mixed (by kernel_rfl) (hT) ?_; intro w hT
    refine rd hf rfl (yl_move rfl) rfl rfl ?_; intro a hf
    refine rd hf rfl (yl_assign rfl) rfl rfl ?_; intro a hf
    refine plan_nil ?_
    replace hf := hf.sel [4] (l' := [(4, _)]) rfl
    refine wpIn_ret ?_
    exact body_ret hf (L := [_, _, _, _]) (hT) rfl rfl ⟨rfl, by rw [hin, if_neg (by decide)]; exact hB⟩
theorem IndexAck_spec {e : Env} {w : World} {rs : List Part} (bb1 bb2 b : Nat) (s : BS) (vo sv : Value) (Lb : List Part) (hB : BufM b s vo Lb) (hI : Inv s) (hlen : s.L.length ≤ 256) (S : List Sp) (hE : Els encSp rs sv S) (hset : setE S = 0) (hbox1 : RowIn rs bb1 0 [sv]) (hbox2 : RowIn rs bb2 0 [.pointer (some ⟨b, 0, none⟩)]) (v0 : Value) (hO : Els encI rs v0 (ids s.L)) (hT : Tot e w (Lb ++ rs)) : Spec Try.prog 94 #[v0, .func (.func 62) #[] #[.pointer (some ⟨bb1, 0, none⟩), .pointer (some ⟨bb2, 0, none⟩)]] e w rs (fun v L => ∃ j : Int, v = .int .i64 j ∧ ((j = -1 ∧ (∀ m (hm : m < s.L.length), inS S s.L[m].r.id = false) ∧ BufM b s vo L) ∨ (∃ k, ∃ hk : k < s.L.length, j = (k : Nat) ∧ (∀ m (hm : m < s.L.length), m < k → inS S s.L[m].r.id = false) ∧ inS S s.L[k].r.id = true ∧ BufM b (drp s s.L[k]) vo L))) := by
  refine spec_body Try.func94 rfl Try.ntmps94 rfl rfl ?_
  intro a hf
  obtain ⟨x0, x1, x2, x3, rfl⟩ := hB.four
  refine wpIn_seq ?_
  -- region 0 (slices.go:107)
  refine wp_reg ([]) ([_, _, _, _] ++ rs) [(0, true)] mixed (by kernel_rfl) (hT) ?_; intro w hT
  refine rd hf rfl (yl_assign rfl) rfl rfl ?_; intro a hf
  refine plan_nil ?_
  refine wpIn_seq ?_
  refine wpIn_seq ?_
  -- region 1 (slices.go:108)
  refine wp_reg ([]) ([_, _, _, _] ++ rs) [(0, true), (1, true), (2, true)] mixed (by kernel_rfl) (hT) ?_; intro w hT
  refine rd hf rfl (yl_move rfl) rfl rfl ?_; intro a hf
  refine rd hf rfl (yl_lenE rfl Try.underlying37 hO.app) rfl rfl ?_; intro a hf
  refine rd hf rfl (yl_move rfl) rfl rfl ?_; intro a hf
  refine plan_nil ?_
  refine wpIn_block ?_
  have hlen0 := hO.len_le
  have hln : (ids s.L).length = s.L.length := by simp [ids]
  replace hT := hT.bring 3
  replace hT := hT.bring 3
  replace hT := hT.bring 3
  replace hT := hT.bring 3
  refine wp_loopS (σ := Nat) (fun k => [(8, .int .i64 (k : Nat))]) [(7, _), (0, _), (1, _)] (fun k L => k ≤ s.L.length ∧ (∀ m (hm : m < s.L.length), m < k → inS S s.L[m].r.id = false) ∧ ∃ x0 x1 x2 x3, BufM b s vo [x0, x1, x2, x3] ∧ L = [x0, x1, x2, x3]) (fun k => s.L.length - k) 0 (L := [_, _, _, _]) (R := [] ++ rs) (hf.sel [8, 7, 0, 1] rfl) (⟨Nat.zero_le _, fun m hm h => absurd h (Nat.not_lt_zero _), _, _, _, _, hB, rfl⟩) hT ?_
  clear hf hT; rintro k a w L hf ⟨hk, ho, y0, y1, y2, y3, hB, rfl⟩ hT
  replace hf : Fr _ [(8, .int .i64 (k : Nat)), (7, _), (0, _), (1, _)] _ _ := hf
  refine wpIn_seq ?_
  -- region 2 (slices.go:108)
  refine wp_reg ([]) ([_, _, _, _] ++ rs) [(0, true)] mixed (by kernel_rfl) (hT) ?_; intro w hT
  refine rd hf rfl (yl_cmp rfl rfl rfl) rfl rfl ?_; intro a hf
  refine plan_nil ?_
  refine wpIn_seq ?_
  refine wp_ifd hf rfl (fun hlt => ?_) (fun hlt => ?_)
  · -- then
    have hltk : k < s.L.length := by omega
    have hj : (ids s.L)[k]? = some s.L[k].r.id := by simp [ids, hltk]
    have hfk := fnd_of_mem hI.nd (List.getElem_mem hltk)
    have hbr := bytes_rng (hI.ok _ (List.getElem_mem hltk))
    have hus := sumB_rng hI.ok
    rw [← hI.us] at hus
    refine wpIn_skip ?_
    refine wpIn_seq ?_
    refine wpIn_block ?_
    refine wpIn_seq ?_
    -- region 3 (slices.go:108)
    refine wp_reg ([]) ([_, _, _, _] ++ rs) [(0, true), (1, true)] mixed (by kernel_rfl) (hT) ?_; intro w hT
    refine rd hf rfl (yl_move rfl) rfl rfl ?_; intro a hf
    refine rd hf rfl (yl_assign rfl) rfl rfl ?_; intro a hf
    refine plan_nil ?_
    refine wpIn_seq ?_
    -- region 4 (slices.go:109)
    refine wp_reg ([]) ([_, _, _, _] ++ rs) [(0, true), (1, true), (2, true), (3, true), (4, true), (5, false)] mixed (by kernel_rfl) (hT) ?_; intro w hT
    refine rd hf rfl (yl_move rfl) rfl rfl ?_; intro a hf
    refine rd hf rfl (yl_move rfl) rfl rfl ?_; intro a hf
    refine rd hf rfl (yl_move rfl) rfl rfl ?_; intro a hf
    refine rd hf rfl (yl_indexE rfl rfl Try.underlying37 sz_2 hO.app (by omega) (by omega)) rfl rfl ?_; intro a hf
    refine rd hf rfl (yl_load Try.underlying2 rfl rfl (hO.app.cell hj (f := 0) rfl)) rfl rfl ?_; intro a hf
    replace hT : Tot _ _ ([_] ++ ([_, _, _] ++ rs)) := hT.bring 3
    replace hT : Tot _ _ ([_, _] ++ ([_, _] ++ rs)) := hT.bring 3
    replace hT : Tot _ _ ([_, _, _] ++ ([_] ++ rs)) := hT.bring 3
    replace hT : Tot _ _ ([_, _, _, _] ++ ([] ++ rs)) := hT.bring 3
    refine ef_call_last hf rfl (wanted_none _ _ rfl) (by kernel_rfl) rfl rfl (by kernel_rfl) (Spec.frame (L2 := []) (Ack1_spec bb1 bb2 b s vo sv _ hB S hE.app hset (rowIn_app hbox1) (rowIn_app hbox2) s.L[k].r.id s.L[k] hfk (by unfold inI64; omega) hT)) rfl (l' := [(15, _), (14, _), (13, _), (12, _), (11, _), (5, _), (10, _), (9, _), (8, _), (7, _), (0, _), (1, _)]) rfl ?_; rintro a w v L ⟨L1, ⟨rfl, hB3⟩, rfl⟩ hf hT
    obtain ⟨z0, z1, z2, z3, rfl⟩ := hB3.four
    replace hf := hf.sel [16, 5, 8, 7, 0, 1] (l' := [(16, _), (5, _), (8, _), (7, _), (0, _), (1, _)]) rfl
    refine wp_if hf rfl (fun hin => ?_) (fun hin => ?_)
    · -- then
      rw [if_pos hin] at hB3
      refine wpIn_seq ?_
      -- region 5 (slices.go:110)
      refine wp_reg ([]) ([_, _, _, _] ++ rs) [(0, true), (1, true)] mixed (by kernel_rfl) (hT) ?_; intro w hT
      refine rd hf rfl (yl_move rfl) rfl rfl ?_; intro a hf
      refine rd hf rfl (yl_assign rfl) rfl rfl ?_; intro a hf
      refine plan_nil ?_
      replace hf := hf.sel [4] (l' := [(4, _)]) rfl
      refine wpIn_ret ?_
      exact body_ret hf (L := [_, _, _, _]) (hT) rfl rfl ⟨_, rfl, .inr ⟨k, hltk, rfl, ho, hin, hB3⟩⟩
    · -- else
      rw [if_neg (by rw [hin]; decide)] at hB3
      refine wpIn_skip ?_
      -- region 6 (slices.go:108)
      refine wp_reg ([]) ([_, _, _, _] ++ rs) [(0, true), (1, true)] mixed (by kernel_rfl) (hT) ?_; intro w hT
      refine rd hf rfl (yl_add rfl rfl (by unfold inI64; omega)) rfl rfl ?_; intro a hf
      refine rw_ hf rfl (yl_move rfl) rfl (l' := [(8, _), (18, _), (16, _), (5, _), (7, _), (0, _), (1, _)]) rfl ?_; intro a hf
      refine plan_nil ?_
      replace hf := hf.sel [8, 7, 0, 1] (l' := [(8, _), (7, _), (0, _), (1, _)]) rfl
      exact ⟨k + 1, _, hf.sel [8, 7, 0, 1] rfl, ⟨by omega, fun m hm h => by by_cases hmk : m = k; subst hmk; exact hin; exact ho m hm (by omega), _, _, _, _, hB3, rfl⟩, hT, by first | omega | (dsimp only; omega)⟩
  · -- else
    obtain rfl : k = s.L.length := by omega
    refine wpIn_exit ?_
    refine then_exit ?_
    refine then_exit ?_
    refine inBlock_hit ?_
    refine wpIn_seq ?_
    -- region 7 (slices.go:113)
    refine wp_reg ([]) ([_, _, _, _] ++ rs) [(0, true)] mixed (by kernel_rfl) (hT) ?_; intro w hT
    refine rd hf rfl (yl_assign rfl) rfl rfl ?_; intro a hf
    refine plan_nil ?_
    replace hf := hf.sel [4] (l' := [(4, _)]) rfl
    refine wpIn_ret ?_
    exact body_ret hf (L := [_, _, _, _]) (hT) rfl rfl ⟨_, rfl, .inl ⟨rfl, fun m hm => ho m hm hm, hB⟩⟩
theorem DeleteAck_spec {e : Env} {w : World} {rs : List Part} (bb1 bb2 b : Nat) (s : BS) (vo sv : Value) (Lb : List Part) (hB : BufM b s vo Lb) (hI : Inv s) (hlen : s.L.length ≤ 256) (S : List Sp) (hE : Els encSp rs sv S) (hset : setE S = 0) (hbox1 : RowIn rs bb1 0 [sv]) (hbox2 : RowIn rs bb2 0 [.pointer (some ⟨b, 0, none⟩)]) (v1 : Value) (X : Part) (hS : Sl encI 2 v1 (ids s.L) X) (hT : Tot e w ((X :: Lb) ++ rs)) : Spec Try.prog 61 #[v1, .func (.func 62) #[] #[.pointer (some ⟨bb1, 0, none⟩), .pointer (some ⟨bb2, 0, none⟩)]] e w rs (fun v L => ∃ X' Lb', Sl encI 2 v (ids (ackTo S s s.L.length).L) X' ∧ BufM b (ackTo S s s.L.length) vo Lb' ∧ L = X' :: Lb') := by
  refine spec_body Try.func61 rfl Try.ntmps61 rfl rfl ?_
  intro a hf
  obtain ⟨x0, x1, x2, x3, rfl⟩ := hB.four
  refine wpIn_seq ?_
  -- region 0 (slices.go:241)
  refine wp_reg ([]) ([_, _, _, _, _] ++ rs) [(0, true)] mixed (by kernel_rfl) (hT) ?_; intro w hT
  refine rd hf rfl (yl_assign rfl) rfl rfl ?_; intro a hf
  refine plan_nil ?_
  refine wpIn_seq ?_
  -- region 1 (slices.go:242)
  refine wp_reg ([_, _, _, _]) ([_] ++ rs) [(0, true), (1, true), (2, false), (3, true)] mixed (by kernel_rfl) (hT.brings [4, 4, 4, 4]) ?_; intro w hT
  refine rd hf rfl (yl_move rfl) rfl rfl ?_; intro a hf
  refine rd hf rfl (yl_move rfl) rfl rfl ?_; intro a hf
  replace hT : Tot _ _ ([_, _, _, _] ++ ([_] ++ rs)) := hT.bring 3
  replace hT : Tot _ _ ([_, _, _, _] ++ ([_] ++ rs)) := hT.bring 3
  replace hT : Tot _ _ ([_, _, _, _] ++ ([_] ++ rs)) := hT.bring 3
  replace hT : Tot _ _ ([_, _, _, _] ++ ([_] ++ rs)) := hT.bring 3
  refine ef_call hf rfl (wanted_none _ _ rfl) rfl rfl (by kernel_rfl) (Spec.frame (L2 := []) (IndexAck_spec bb1 bb2 b s vo sv _ hB hI hlen S hE.app hset (rowIn_app hbox1) (rowIn_app hbox2) v1 (hS.els (.head _)) hT)) rfl (l' := [(9, _), (8, _), (4, _), (0, _), (1, _)]) rfl ?_; rintro a w v L ⟨L1, ⟨j, rfl, hj⟩, rfl⟩ hf hT
  obtain ⟨z0, z1, z2, z3, rfl⟩ : ∃ z0 z1 z2 z3, L1 = [z0, z1, z2, z3] := by rcases hj with ⟨_, _, h⟩ | ⟨_, _, _, _, _, h⟩ <;> exact h.four
  refine rd hf rfl (yl_assign rfl) rfl rfl ?_; intro a hf
  refine plan_nil ?_
  replace hf := hf.sel [5, 0, 1] (l' := [(5, _), (0, _), (1, _)]) rfl
  refine wpIn_seq ?_
  refine wpIn_seq ?_
  -- region 2 (slices.go:243)
  refine wp_reg ([]) ([_, _, _, _, _] ++ rs) [(0, true), (1, true)] mixed (by kernel_rfl) (hT) ?_; intro w hT
  refine rd hf rfl (yl_move rfl) rfl rfl ?_; intro a hf
  refine rd hf rfl (yl_cmp rfl rfl rfl) rfl rfl ?_; intro a hf
  refine plan_nil ?_
  refine wp_ifd hf rfl (fun hjm => ?_) (fun hjm => ?_)
  · -- then
    obtain ⟨-, hall, hB3⟩ := hj.resolve_right (fun ⟨k, hk, he, _⟩ => by omega)
    have hfin : ackTo S s s.L.length = s := ackTo_none _ (Nat.le_refl _) fun m hm _ => hall m hm
    refine wpIn_seq ?_
    -- region 3 (slices.go:244)
    refine wp_reg ([]) ([_, _, _, _, _] ++ rs) [(0, true), (1, true)] mixed (by kernel_rfl) (hT) ?_; intro w hT
    refine rd hf rfl (yl_move rfl) rfl rfl ?_; intro a hf
    refine rd hf rfl (yl_assign rfl) rfl rfl ?_; intro a hf
    refine plan_nil ?_
    replace hf := hf.sel [4] (l' := [(4, _)]) rfl
    refine wpIn_ret ?_
    exact body_ret hf (L := [_, _, _, _, _]) ((hT.brings [3, 3, 3, 3, 4])) rfl rfl ⟨_, _, by rw [hfin]; exact hS, by rw [hfin]; exact hB3, rfl⟩
  · -- else
    obtain ⟨k0, hk0, rfl, hno, hyes, hB3⟩ := hj.resolve_left (fun h => hjm h.1)
    have hst := ackTo_yes hI hk0 hyes
    rw [ackTo_none k0 (by omega) hno] at hst
    rw [hst] at hB3
    have hfl0 : ((s.L.take (k0 + 1)).filter (fun h => !inS S h.r.id)) = s.L.take k0 := by
      rw [List.take_succ_eq_append_getElem hk0, List.filter_append, List.filter_eq_self.2]
      · simp [hyes]
      · intro x hx; obtain ⟨m, hm, rfl⟩ := List.getElem_of_mem hx; simp only [List.length_take] at hm; rw [List.getElem_take]; simp [hno m (by omega) (by omega)]
    refine wpIn_skip ?_
    refine wpIn_seq ?_
    refine wpIn_seq ?_
    -- region 4 (slices.go:247)
    refine wp_reg ([]) ([_, _, _, _, _] ++ rs) [(0, true), (1, true), (2, true)] mixed (by kernel_rfl) (hT) ?_; intro w hT
    refine rd hf rfl (yl_move rfl) rfl rfl ?_; intro a hf
    refine rd hf rfl (yl_add rfl rfl (by unfold inI64; omega)) rfl rfl ?_; intro a hf
    refine rd hf rfl (yl_assign rfl) rfl rfl ?_; intro a hf
    refine plan_nil ?_
    replace hf := hf.sel [6, 5, 0, 1] (l' := [(6, _), (5, _), (0, _), (1, _)]) rfl
    refine wpIn_block ?_
    have hlen0 := hS.len_le
    have hln : (ids s.L).length = s.L.length := by simp [ids]
    replace hT := hT.bring 3
    replace hT := hT.bring 3
    replace hT := hT.bring 3
    replace hT := hT.bring 3
    replace hT := hT.bring 4
    refine wp_loopS (σ := Nat × Nat × List Int) (fun (i, j, ys) => [(5, .int .i64 (i : Nat)), (6, .int .i64 (j : Nat))]) [(0, _), (1, _)] (fun (i, j, ys) L => i = ((s.L.take j).filter (fun h => !inS S h.r.id)).length ∧ i < j ∧ j ≤ s.L.length ∧ ys.length = s.L.length ∧ ys.take i = ids ((s.L.take j).filter (fun h => !inS S h.r.id)) ∧ ys.drop j = (ids s.L).drop j ∧ ∃ X' x0 x1 x2 x3, Sl encI 2 v1 ys X' ∧ BufM b (ackTo S s j) vo [x0, x1, x2, x3] ∧ L = [X', x0, x1, x2, x3]) (fun (i, j, ys) => s.L.length - j) (k0, k0 + 1, ids s.L) (L := [_, _, _, _, _]) (R := [] ++ rs) (hf.sel [5, 6, 0, 1] rfl) (⟨by rw [hfl0, List.length_take]; omega, by omega, by omega, by simp [ids], by rw [hfl0]; simp [ids, List.map_take], rfl, _, _, _, _, _, hS, hB3, rfl⟩) hT ?_
    clear hf hT; rintro ⟨i, j, ys⟩ a w L hf ⟨hi, hij, hjn, hyl, hyt, hyd, X', x0, x1, x2, x3, hS, hB, rfl⟩ hT
    replace hf : Fr _ [(5, .int .i64 (i : Nat)), (6, .int .i64 (j : Nat)), (0, _), (1, _)] _ _ := hf
    refine wpIn_seq ?_
    refine wpIn_seq ?_
    -- region 5 (slices.go:247)
    refine wp_reg ([]) ([_, _, _, _, _] ++ rs) [(0, true), (1, true), (2, true), (3, true)] mixed (by kernel_rfl) (hT) ?_; intro w hT
    refine rd hf rfl (yl_move rfl) rfl rfl ?_; intro a hf
    refine rd hf rfl (yl_move rfl) rfl rfl ?_; intro a hf
    refine rd hf rfl (yl_lenE rfl Try.underlying37 (hS.els (.head _))) rfl rfl ?_; intro a hf
    refine rd hf rfl (yl_cmp rfl rfl rfl) rfl rfl ?_; intro a hf
    refine plan_nil ?_
    replace hf := hf.sel [19, 5, 6, 0, 1] (l' := [(19, _), (5, _), (6, _), (0, _), (1, _)]) rfl
    refine wp_ifd hf rfl (fun hlt => ?_) (fun hlt => ?_)
    · -- then
      have hltj : j < s.L.length := by omega
      have hyj : (ys.drop j)[0]? = ((ids s.L).drop j)[0]? := by rw [hyd]
      have hj : ys[j]? = some s.L[j].r.id := by rw [List.getElem?_drop, List.getElem?_drop, Nat.add_zero] at hyj; rw [hyj]; simp [ids, hltj]
      have hfk := fnd_ackTo hI S hltj
      have hIk := hI.ackTo S j
      have hbr := bytes_rng (hI.ok _ (List.getElem_mem hltj))
      have hus := sumB_rng hIk.ok
      rw [← hIk.us] at hus
      have hlk := ackTo_len S s j
      have hyd2 : ys.drop (j + 1) = (ids s.L).drop (j + 1) := by have := congrArg (List.drop 1) hyd; rwa [List.drop_drop, List.drop_drop] at this
      refine wpIn_skip ?_
      refine wpIn_seq ?_
      refine wpIn_block ?_
      refine wpIn_seq ?_
      -- region 7 (slices.go:248)
      refine wp_reg ([]) ([_, _, _, _, _] ++ rs) [(0, true), (1, true), (2, true), (3, true), (4, true)] mixed (by kernel_rfl) (hT) ?_; intro w hT
      refine rd hf rfl (yl_move rfl) rfl rfl ?_; intro a hf
      refine rd hf rfl (yl_move rfl) rfl rfl ?_; intro a hf
      refine rd hf rfl (yl_indexE rfl rfl Try.underlying37 sz_2 (hS.els (.head _)) (by omega) (by omega)) rfl rfl ?_; intro a hf
      refine rd hf rfl (yl_load Try.underlying2 rfl rfl ((hS.els (.head _)).cell hj (f := 0) rfl)) rfl rfl ?_; intro a hf
      refine rd hf rfl (yl_assign rfl) rfl rfl ?_; intro a hf
      refine plan_nil ?_
      replace hf := hf.sel [7, 5, 6, 0, 1] (l' := [(7, _), (5, _), (6, _), (0, _), (1, _)]) rfl
      refine wpIn_seq ?_
      -- region 8 (slices.go:248)
      refine wp_reg ([_, _, _, _]) ([_] ++ rs) [(0, true), (1, true), (2, false), (3, true)] mixed (by kernel_rfl) (hT.brings [4, 4, 4, 4]) ?_; intro w hT
      refine rd hf rfl (yl_move rfl) rfl rfl ?_; intro a hf
      refine rd hf rfl (yl_move rfl) rfl rfl ?_; intro a hf
      replace hT : Tot _ _ ([_, _, _, _] ++ ([_] ++ rs)) := hT.bring 3
      replace hT : Tot _ _ ([_, _, _, _] ++ ([_] ++ rs)) := hT.bring 3
      replace hT : Tot _ _ ([_, _, _, _] ++ ([_] ++ rs)) := hT.bring 3
      replace hT : Tot _ _ ([_, _, _, _] ++ ([_] ++ rs)) := hT.bring 3
      refine ef_call hf rfl (wanted_none _ _ rfl) rfl rfl (by kernel_rfl) (Spec.frame (L2 := []) (Ack1_spec bb1 bb2 b _ vo sv _ hB S hE.app hset (rowIn_app hbox1) (rowIn_app hbox2) s.L[j].r.id s.L[j] hfk (by unfold inI64; omega) hT)) rfl (l' := [(27, _), (26, _), (7, _), (5, _), (6, _), (0, _), (1, _)]) rfl ?_; rintro a w v L ⟨L1, ⟨rfl, hB4⟩, rfl⟩ hf hT
      obtain ⟨z0, z1, z2, z3, rfl⟩ := hB4.four
      refine rd hf rfl (yl_not rfl) rfl rfl ?_; intro a hf
      refine plan_nil ?_
      replace hf := hf.sel [29, 7, 5, 6, 0, 1] (l' := [(29, _), (7, _), (5, _), (6, _), (0, _), (1, _)]) rfl
      refine wp_if hf rfl (fun hin => ?_) (fun hin => ?_)
      · -- then
        have hin2 : inS S s.L[j].r.id = false := by simpa using hin
        rw [if_neg (by rw [hin2]; decide), ← ackTo_no hltj hin2] at hB4
        have hfs : (s.L.take (j + 1)).filter (fun h => !inS S h.r.id) = (s.L.take j).filter (fun h => !inS S h.r.id) ++ [s.L[j]] := by rw [List.take_succ_eq_append_getElem hltj, List.filter_append]; simp [hin2]
        have hji : ys[i]? = some (ys[i]'(by omega)) := List.getElem?_eq_getElem _
        refine wpIn_seq ?_
        -- region 9 (slices.go:249)
        refine wp_reg ([_]) ([_, _, _, _] ++ rs) [(0, false), (1, false), (2, false), (3, false), (4, false)] mixed (by kernel_rfl) (hT.brings [4]) ?_; intro w hT
        refine ef hf hT rfl rfl (ef_read (yl_move rfl)) rfl (l' := [(29, _), (7, _), (5, _), (6, _), (0, _), (1, _)]) rfl ?_; rintro a w v L ⟨rfl, rfl⟩ hf hT
        refine ef hf hT rfl rfl (ef_read (yl_move rfl)) rfl (l' := [(30, _), (29, _), (7, _), (5, _), (6, _), (0, _), (1, _)]) rfl ?_; rintro a w v L ⟨rfl, rfl⟩ hf hT
        refine ef hf hT rfl rfl (ef_read (yl_move rfl)) rfl (l' := [(31, _), (30, _), (29, _), (7, _), (5, _), (6, _), (0, _), (1, _)]) rfl ?_; rintro a w v L ⟨rfl, rfl⟩ hf hT
        refine ef hf hT rfl rfl (ef_read (yl_indexE rfl rfl Try.underlying37 sz_2 (hS.els (.head _)) (by omega) (by omega))) rfl (l' := [(32, _), (31, _), (30, _), (29, _), (7, _), (5, _), (6, _), (0, _), (1, _)]) rfl ?_; rintro a w v L ⟨rfl, rfl⟩ hf hT
        refine efS hf hT rfl rfl (ef_storeEl (E := encI) (j := i) (f := 0) (a' := s.L[j].r.id) rfl rfl sz_2 rfl hS (hji) (by decide) rfl) ?_; rintro w L ⟨X1, hS1, rfl⟩ hT
        refine plan_nil ?_
        replace hf := hf.sel [5, 6, 0, 1] (l' := [(5, _), (6, _), (0, _), (1, _)]) rfl
        -- region 10 (slices.go:250)
        refine wp_reg ([]) ([_, _, _, _, _] ++ rs) [(0, true), (1, true), (2, true)] mixed (by kernel_rfl) (hT) ?_; intro w hT
        refine rd hf rfl (yl_move rfl) rfl rfl ?_; intro a hf
        refine rd hf rfl (yl_add rfl rfl (by unfold inI64; omega)) rfl rfl ?_; intro a hf
        refine rw_ hf rfl (yl_assign rfl) rfl (l' := [(5, _), (35, _), (34, _), (6, _), (0, _), (1, _)]) rfl ?_; intro a hf
        refine plan_nil ?_
        -- region 6 (slices.go:247)
        refine wp_reg ([]) ([_, _, _, _, _] ++ rs) [(0, true), (1, true), (2, true)] mixed (by kernel_rfl) (hT) ?_; intro w hT
        refine rd hf rfl (yl_move rfl) rfl rfl ?_; intro a hf
        refine rd hf rfl (yl_add rfl rfl (by unfold inI64; omega)) rfl rfl ?_; intro a hf
        refine rw_ hf rfl (yl_assign rfl) rfl (l' := [(6, _), (21, _), (20, _), (5, _), (35, _), (34, _), (0, _), (1, _)]) rfl ?_; intro a hf
        refine plan_nil ?_
        replace hf := hf.sel [6, 5, 0, 1] (l' := [(6, _), (5, _), (0, _), (1, _)]) rfl
        exact ⟨(i + 1, j + 1, ys.set i s.L[j].r.id), _, hf.sel [5, 6, 0, 1] rfl, ⟨by rw [hfs, List.length_append, ← hi]; rfl, by omega, by omega, by rw [List.length_set]; exact hyl, by rw [hfs, List.take_succ_eq_append_getElem (by rw [List.length_set]; omega), List.take_set_of_le (Nat.le_refl _), hyt]; simp [ids], by rw [List.drop_set_of_lt (by omega)]; exact hyd2, _, _, _, _, _, hS1, hB4, rfl⟩, hT, by first | omega | (dsimp only; omega)⟩
      · -- else
        have hin2 : inS S s.L[j].r.id = true := by simpa using hin
        rw [if_pos hin2, ackTo_yes hI hltj hin2] at hB4
        have hfs : (s.L.take (j + 1)).filter (fun h => !inS S h.r.id) = (s.L.take j).filter (fun h => !inS S h.r.id) := by rw [List.take_succ_eq_append_getElem hltj, List.filter_append]; simp [hin2]
        refine wpIn_skip ?_
        -- region 6 (slices.go:247)
        refine wp_reg ([]) ([_, _, _, _, _] ++ rs) [(0, true), (1, true), (2, true)] mixed (by kernel_rfl) (hT) ?_; intro w hT
        refine rd hf rfl (yl_move rfl) rfl rfl ?_; intro a hf
        refine rd hf rfl (yl_add rfl rfl (by unfold inI64; omega)) rfl rfl ?_; intro a hf
        refine rw_ hf rfl (yl_assign rfl) rfl (l' := [(6, _), (21, _), (20, _), (29, _), (7, _), (5, _), (0, _), (1, _)]) rfl ?_; intro a hf
        refine plan_nil ?_
        replace hf := hf.sel [6, 5, 0, 1] (l' := [(6, _), (5, _), (0, _), (1, _)]) rfl
        exact ⟨(i, j + 1, ys), _, hf.sel [5, 6, 0, 1] rfl, ⟨by rw [hfs]; exact hi, by omega, by omega, hyl, by rw [hfs]; exact hyt, hyd2, _, _, _, _, _, hS, hB4, rfl⟩, (hT.brings [3, 3, 3, 3, 4]), by first | omega | (dsimp only; omega)⟩
    · -- else
      rcases hS with ⟨_, h0, _⟩ | ⟨bb, c, cs, hv1, rfl, hc1, hc2, hc3, hc4⟩
      · rw [h0] at hyl; simp at hyl; omega
      obtain rfl : j = s.L.length := by omega
      subst hv1
      have hc3' : cs.size = c := by rw [hc3]; exact Nat.mul_one c
      refine wpIn_exit ?_
      refine then_exit ?_
      refine then_exit ?_
      refine inBlock_hit ?_
      refine wpIn_seq ?_
      -- region 11 (slices.go:253)
      refine wp_reg ([_]) ([_, _, _, _] ++ rs) [(0, true), (1, true), (2, true), (3, false)] mixed (by kernel_rfl) (hT.brings [0]) ?_; intro w hT
      refine rd hf rfl (yl_move rfl) rfl rfl ?_; intro a hf
      refine rd hf rfl (yl_move rfl) rfl rfl ?_; intro a hf
      refine rd hf rfl (yl_sliceAt (L := i) (H := ys.length) rfl Try.underlying37 sz_2 (idxI rfl) rfl (by omega) (by omega) (by omega)) rfl rfl ?_; intro a hf
      refine efN hf hT rfl rfl (ef_clear (sz := 1) rfl Try.underlying37 zr_2 rfl (by decide) (by decide) (by omega)) ?_; rintro w v L ⟨zs, hzl, rfl⟩ hT
      refine plan_nil ?_
      replace hf := hf.sel [5, 0] (l' := [(5, _), (0, _)]) rfl
      refine wpIn_seq ?_
      -- region 12 (slices.go:254)
      refine wp_reg ([]) ([_, _, _, _, _] ++ rs) [(0, true), (1, true), (2, true), (3, true)] mixed (by kernel_rfl) (hT) ?_; intro w hT
      refine rd hf rfl (yl_move rfl) rfl rfl ?_; intro a hf
      refine rd hf rfl (yl_move rfl) rfl rfl ?_; intro a hf
      refine rd hf rfl (yl_sliceAt (L := 0) (H := i) rfl Try.underlying37 sz_2 rfl (idxI rfl) (by omega) (by omega) (by omega)) rfl rfl ?_; intro a hf
      refine rd hf rfl (yl_assign rfl) rfl rfl ?_; intro a hf
      refine plan_nil ?_
      replace hf := hf.sel [4] (l' := [(4, _)]) rfl
      refine wpIn_ret ?_
      have hfinL : (ackTo S s s.L.length).L = s.L.filter (fun h => !inS S h.r.id) := by simp [ackTo]
      rw [List.take_length] at hi hyt
      have hids : (ids (ackTo S s s.L.length).L).length = i := by rw [hfinL, hi]; simp [ids]
      refine body_ret hf (L := [_, _, _, _, _]) (hT) rfl rfl ⟨_, _, .inr ⟨bb, c, _, ?_, rfl, by rw [hids]; omega, hc2, ?_, ?_⟩, hB, rfl⟩
      · rw [hids]; simp [retv]
      · rw [List.size_toArray, splice_length (by rw [hzl, show cs.toList.length = cs.size from rfl]; omega), show cs.toList.length = cs.size from rfl, hc3]
      · rw [hids, hfinL, ← hyt]
        show (splice cs.toList (0 + i * 1) zs).take (i * 1) = _
        have e1 : (splice cs.toList (0 + i * 1) zs).take (i * 1) = cs.toList.take i := by
          unfold splice
          rw [Nat.mul_one, Nat.zero_add, List.append_assoc, List.take_append_of_le_length (by rw [List.length_take, show cs.toList.length = cs.size from rfl]; omega), List.take_take, Nat.min_self]
        rw [e1]
        have e2 := congrArg (List.take i) hc4
        rw [List.take_take, show encI.sz = 1 from rfl, Nat.mul_one, Nat.min_eq_left (by omega), allI] at e2
        rw [e2, allI, List.map_take]
end Go.Proofs.Ytjhbgciocffihaa
