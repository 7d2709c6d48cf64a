-- written by gen.py out of walks texts of my own
import Derived.Test.YtjhbgciocffihaaB3
set_option linter.unusedVariables false
set_option linter.unusedSimpArgs false
set_option maxHeartbeats 4000000
namespace Go.Proofs.Ytjhbgciocffihaa
theorem rowIn_app {R R' : List Part} {b k : Nat} {vs : List Value} (h : RowIn R b k vs) : RowIn (R' ++ R) b k vs := fun j v hj => (h j v hj).app
theorem Put1_spec {e : Env} {w : World} {rs : List Part} (bb b : Nat) (s : BS) (vo : Value) (hbox : RowIn rs bb 0 [.pointer (some ⟨b, 0, none⟩)]) (hB : BufMIn rs b s vo) (id : Int) (h : Hld) (hh : fnd s.L id = some h) (key : Rec) (hT : Tot e w rs) : Spec Try.prog 49 #[.int .i64 id, encR key, .pointer (some ⟨bb, 0, none⟩)] e w rs (fun v L => v = .int .i64 (cmpR h.r key) ∧ L = []) := by
  refine spec_body Try.func49 rfl Try.ntmps49 rfl rfl ?_
  intro a hf
  obtain ⟨br, bs, bt, mr, ms, mt, hrow, hMr, hMs, hMt, hM⟩ := hB
  refine wpIn_seq ?_
  -- region 0 (buffer.go:118)
  refine wp_reg ([]) ([] ++ rs) [(0, false), (1, true)] mixed (by kernel_rfl) (hT) ?_; intro w hT
  refine ef hf hT rfl rfl (ef_box rfl) rfl (l' := [(0, _), (1, _), (2, _)]) rfl ?_; rintro a w v L ⟨b1, rfl, rfl⟩ hf hT
  refine rd hf rfl (yl_assign rfl) rfl rfl ?_; intro a hf
  refine plan_nil ?_
  refine wpIn_seq ?_
  -- region 1 (buffer.go:118)
  refine wp_reg ([]) ([_] ++ rs) [(0, true), (1, true), (2, true), (3, true), (4, true), (5, true), (6, true), (7, false), (8, true)] mixed (by kernel_rfl) (hT) ?_; intro w hT
  refine rd hf rfl (yl_load Try.underlying25 rfl rfl (hbox 0 _ rfl).app) rfl rfl ?_; intro a hf
  refine rd hf rfl (yl_nil rfl) rfl rfl ?_; intro a hf
  refine rd hf rfl (yl_faddr Try.underlying106 rfl rfl sz_29 (k := 4) rfl) rfl rfl ?_; intro a hf
  refine rd hf rfl (yl_load Try.underlying29 rfl rfl (hrow 4 _ rfl).app) rfl rfl ?_; intro a hf
  refine rd hf rfl (yl_move rfl) rfl rfl ?_; intro a hf
  refine rd hf rfl (yl_lookupE kI Try.underlying29 zr_31 rfl rfl hMr.app (show _ = encR h.r from by rw [hM.r, hh]; rfl)) rfl rfl ?_; intro a hf
  refine rd hf rfl (yl_loadB Try.underlying31 rfl sz_31 (vs := key.cells) (.head _) rfl (pt_self _ _) rfl rfl) rfl rfl ?_; intro a hf
  refine ef_call hf rfl (wanted_none _ _ rfl) rfl rfl (by kernel_rfl) (Spec.frame (L2 := []) (cmpR_spec h.r key hT)) rfl (l' := [(12, _), (11, _), (10, _), (9, _), (8, _), (7, _), (6, _), (5, _), (4, _), (0, _), (1, _), (2, _)]) rfl ?_; rintro a w v L ⟨L1, ⟨rfl, rfl⟩, rfl⟩ hf hT
  refine rw_ hf rfl (yl_assign rfl) rfl (l' := [(5, _), (13, _), (12, _), (11, _), (10, _), (9, _), (8, _), (7, _), (6, _), (4, _), (0, _), (1, _), (2, _)]) rfl ?_; intro a hf
  refine plan_nil ?_
  replace hf := hf.sel [5] (l' := [(5, _)]) rfl
  refine wpIn_ret ?_
  exact body_ret hf (L := []) hT.tail rfl rfl ⟨rfl, rfl⟩
theorem place_spec {e : Env} {w : World} {rs : List Part} (bb b : Nat) (s : BS) (vo : Value) (hbox : RowIn rs bb 0 [.pointer (some ⟨b, 0, none⟩)]) (hB : BufMIn rs b s vo) (hE : Els encI rs vo (ids s.L)) (hnd : (ids s.L).Nodup) (hL : s.L.length ≤ 1000) (key : Rec) (p : Nat) (hp : p ≤ s.L.length) (hpart : ∀ i (hi : i < s.L.length), (cmpR s.L[i].r key < 0 ↔ i < p)) (hT : Tot e w rs) : Spec Try.prog 48 #[vo, encR key, .func (.func 49) #[] #[.pointer (some ⟨bb, 0, none⟩)]] e w rs (fun v L => v = .int .i64 (p : Nat) ∧ L = []) := by
  refine spec_body Try.func48 rfl Try.ntmps48 rfl rfl ?_
  intro a hf
  refine wpIn_seq ?_
  -- region 0 (buffer.go:61)
  refine wp_reg ([]) ([] ++ rs) [(0, false), (1, true)] mixed (by kernel_rfl) (hT) ?_; intro w hT
  refine ef hf hT rfl rfl (ef_box rfl) rfl (l' := [(0, _), (1, _), (2, _)]) rfl ?_; rintro a w v L ⟨b1, rfl, rfl⟩ hf hT
  refine rd hf rfl (yl_assign rfl) rfl rfl ?_; intro a hf
  refine plan_nil ?_
  refine wpIn_seq ?_
  -- region 1 (buffer.go:62)
  refine wp_reg ([]) ([_] ++ rs) [(0, true), (1, true), (2, true), (3, true)] mixed (by kernel_rfl) (hT) ?_; intro w hT
  refine rd hf rfl (yl_move rfl) rfl rfl ?_; intro a hf
  refine rd hf rfl (yl_lenE rfl Try.underlying37 hE.app) rfl rfl ?_; intro a hf
  refine rd hf rfl (yl_assign rfl) rfl rfl ?_; intro a hf
  refine rd hf rfl (yl_assign rfl) rfl rfl ?_; intro a hf
  refine plan_nil ?_
  rw [show (ids s.L).length = s.L.length by simp [ids]] at hf
  replace hf := hf.sel [8, 7, 4, 0, 2] (l' := [(8, _), (7, _), (4, _), (0, _), (2, _)]) rfl
  refine wpIn_seq ?_
  refine wpIn_block ?_
  have hlen := hE.len_le
  have hln : (ids s.L).length = s.L.length := by simp [ids]
  refine wp_loopS (σ := Nat × Nat) (fun (lo, hi) => [(7, .int .i64 (lo : Nat)), (8, .int .i64 (hi : Nat))]) [(4, _), (0, _), (2, _)] (fun (lo, hi) L => L = [] ∧ lo ≤ p ∧ p ≤ hi ∧ hi ≤ s.L.length) (fun (lo, hi) => hi - lo) (0, s.L.length) (L := []) (R := [_] ++ rs) (hf.sel [7, 8, 4, 0, 2] rfl) (⟨rfl, Nat.zero_le _, hp, Nat.le_refl _⟩) hT ?_
  clear hf hT; rintro ⟨lo, hi⟩ a w L hf ⟨rfl, hlo, hhi, hle⟩ hT
  replace hf : Fr _ [(7, .int .i64 (lo : Nat)), (8, .int .i64 (hi : Nat)), (4, _), (0, _), (2, _)] _ _ := hf
  refine wpIn_seq ?_
  refine wpIn_seq ?_
  -- region 2 (buffer.go:63)
  refine wp_reg ([]) ([_] ++ rs) [(0, true), (1, true), (2, true)] mixed (by kernel_rfl) (hT) ?_; intro w hT
  refine rd hf rfl (yl_move rfl) rfl rfl ?_; intro a hf
  refine rd hf rfl (yl_move rfl) rfl rfl ?_; intro a hf
  refine rd hf rfl (yl_cmp rfl rfl rfl) rfl rfl ?_; intro a hf
  refine plan_nil ?_
  refine wp_ifd hf rfl (fun hlt => ?_) (fun hlt => ?_)
  · -- then
    have hlt' : lo < hi := by omega
    have hdv : (((lo : Int) + (hi : Int)).tdiv 2) = (((lo + hi) / 2 : Nat) : Int) := by rw [Int.tdiv_eq_ediv_of_nonneg (by omega)]; omega
    have hmid : (lo + hi) / 2 < s.L.length := by omega
    have hj : (ids s.L)[(((lo : Int) + (hi : Int)).tdiv 2).toNat]? = some s.L[(lo + hi) / 2].r.id := by rw [hdv, Int.toNat_natCast]; simp [ids, hmid]
    have hh : fnd s.L s.L[(lo + hi) / 2].r.id = some s.L[(lo + hi) / 2] := fnd_of_mem hnd (List.getElem_mem hmid)
    have hpm := hpart _ hmid
    refine wpIn_skip ?_
    refine wpIn_block ?_
    refine wpIn_seq ?_
    -- region 3 (buffer.go:64)
    refine wp_reg ([]) ([_] ++ rs) [(0, true), (1, true), (2, true), (3, true), (4, true)] mixed (by kernel_rfl) (hT) ?_; intro w hT
    refine rd hf rfl (yl_move rfl) rfl rfl ?_; intro a hf
    refine rd hf rfl (yl_move rfl) rfl rfl ?_; intro a hf
    refine rd hf rfl (yl_add rfl rfl (by unfold inI64; omega)) rfl rfl ?_; intro a hf
    refine rd hf rfl (yl_quo rfl rfl (by omega) (by omega) (by omega)) rfl rfl ?_; intro a hf
    refine rd hf rfl (yl_assign rfl) rfl rfl ?_; intro a hf
    refine plan_nil ?_
    replace hf := hf.sel [9, 7, 8, 4, 0, 2] (l' := [(9, _), (7, _), (8, _), (4, _), (0, _), (2, _)]) rfl
    refine wpIn_seq ?_
    -- region 4 (buffer.go:65)
    refine wp_reg ([]) ([_] ++ rs) [(0, true), (1, true), (2, true), (3, true), (4, true), (5, true), (6, false), (7, true)] mixed (by kernel_rfl) (hT) ?_; intro w hT
    refine rd hf rfl (yl_move rfl) rfl rfl ?_; intro a hf
    refine rd hf rfl (yl_move rfl) rfl rfl ?_; intro a hf
    refine rd hf rfl (yl_move rfl) rfl rfl ?_; intro a hf
    refine rd hf rfl (yl_indexE rfl rfl Try.underlying37 sz_2 hE.app (by omega) (by omega)) rfl rfl ?_; intro a hf
    refine rd hf rfl (yl_load Try.underlying2 rfl rfl (hE.app.cell hj (f := 0) rfl)) rfl rfl ?_; intro a hf
    refine rd hf rfl (yl_loadB Try.underlying31 rfl sz_31 (vs := key.cells) (.head _) rfl (pt_self _ _) rfl rfl) rfl rfl ?_; intro a hf
    refine ef_call hf rfl (wanted_none _ _ rfl) rfl rfl (by kernel_rfl) (Spec.frame (L2 := []) (Put1_spec bb b s vo (rowIn_app hbox) hB.app _ _ hh key hT)) rfl (l' := [(24, _), (23, _), (22, _), (21, _), (20, _), (19, _), (9, _), (7, _), (8, _), (4, _), (0, _), (2, _)]) rfl ?_; rintro a w v L ⟨L1, ⟨rfl, rfl⟩, rfl⟩ hf hT
    refine rd hf rfl (yl_cmp rfl rfl rfl) rfl rfl ?_; intro a hf
    refine plan_nil ?_
    replace hf := hf.sel [26, 9, 7, 8, 4, 0, 2] (l' := [(26, _), (9, _), (7, _), (8, _), (4, _), (0, _), (2, _)]) rfl
    refine wp_ifd hf rfl (fun hcm => ?_) (fun hcm => ?_)
    · -- then
      have hlt2 : (lo + hi) / 2 < p := hpm.1 hcm
      -- region 5 (buffer.go:66)
      refine wp_reg ([]) ([_] ++ rs) [(0, true), (1, true), (2, true)] mixed (by kernel_rfl) (hT) ?_; intro w hT
      refine rd hf rfl (yl_move rfl) rfl rfl ?_; intro a hf
      refine rd hf rfl (yl_add rfl rfl (by unfold inI64; omega)) rfl rfl ?_; intro a hf
      refine rw_ hf rfl (yl_assign rfl) rfl (l' := [(7, _), (28, _), (27, _), (26, _), (9, _), (8, _), (4, _), (0, _), (2, _)]) rfl ?_; intro a hf
      refine plan_nil ?_
      replace hf := hf.sel [7, 8, 4, 0, 2] (l' := [(7, _), (8, _), (4, _), (0, _), (2, _)]) rfl
      exact ⟨((lo + hi) / 2 + 1, hi), _, hf.sel [7, 8, 4, 0, 2] rfl, ⟨rfl, by omega, by omega, by omega⟩, hT, by first | omega | (dsimp only; omega)⟩
    · -- else
      have hlt2 : ¬ (lo + hi) / 2 < p := fun hx => hcm (hpm.2 hx)
      -- region 6 (buffer.go:68)
      refine wp_reg ([]) ([_] ++ rs) [(0, true), (1, true)] mixed (by kernel_rfl) (hT) ?_; intro w hT
      refine rd hf rfl (yl_move rfl) rfl rfl ?_; intro a hf
      refine rw_ hf rfl (yl_assign rfl) rfl (l' := [(8, _), (29, _), (26, _), (9, _), (7, _), (4, _), (0, _), (2, _)]) rfl ?_; intro a hf
      refine plan_nil ?_
      replace hf := hf.sel [8, 7, 4, 0, 2] (l' := [(8, _), (7, _), (4, _), (0, _), (2, _)]) rfl
      exact ⟨(lo, (lo + hi) / 2), _, hf.sel [7, 8, 4, 0, 2] rfl, ⟨rfl, by omega, by omega, by omega⟩, hT, by first | omega | (dsimp only; omega)⟩
  · -- else
    obtain rfl : lo = p := by omega
    refine wpIn_exit ?_
    refine then_exit ?_
    refine then_exit ?_
    refine inBlock_hit ?_
    refine wpIn_seq ?_
    -- region 7 (buffer.go:71)
    refine wp_reg ([]) ([_] ++ rs) [(0, true), (1, true)] mixed (by kernel_rfl) (hT) ?_; intro w hT
    refine rd hf rfl (yl_move rfl) rfl rfl ?_; intro a hf
    refine rd hf rfl (yl_assign rfl) rfl rfl ?_; intro a hf
    refine plan_nil ?_
    replace hf := hf.sel [6] (l' := [(6, _)]) rfl
    refine wpIn_ret ?_
    exact body_ret hf (L := []) hT.tail rfl rfl ⟨rfl, rfl⟩
end Go.Proofs.Ytjhbgciocffihaa
