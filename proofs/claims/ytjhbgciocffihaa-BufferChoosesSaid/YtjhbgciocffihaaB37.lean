-- written by gen.py out of walks texts of my own
import Derived.Test.YtjhbgciocffihaaB36
set_option linter.unusedVariables false
set_option linter.unusedSimpArgs false
set_option maxHeartbeats 4000000
namespace Go.Proofs.Ytjhbgciocffihaa
private theorem wp_join {P : Program} {N : Nat} {ro : Option Nat} {D : List Deferred} {Q : Exit → Act → World → Prop} {c : Code} {a : Act} {w : World} {e : Env} {l0 : List (Nat × Value)} {L1 : List Part} (hf0 : Fr N l0 D a) (hT0 : Tot e w L1) (d : Nat) (v : Value)
    (h1 : c.wpIn (Fw ro) 0 P (QN fun a w => Fr N ((d, v) :: l0) D a ∧ Tot e w L1) a w) (h2 : ∀ a w, Fr N ((d, v) :: l0) D a → Tot e w L1 → Q .normal a w) : c.wpIn (Fw ro) 0 P Q a w :=
  wpIn_mono h1 (fun ex a' w' hq => by cases ex <;> simp only [QN] at hq; exact h2 _ _ hq.1 hq.2)
private theorem Fr.fix {N : Nat} {D : List Deferred} {a : Act} {d : Nat} {v v' : Value} {l : List (Nat × Value)} (h : Fr N ((d, v') :: l) D a) (hv : v' = v) : Fr N ((d, v) :: l) D a := hv ▸ h
private theorem beqT {b v : Bool} (h : b = v) : (b == v) = true := by simp [h]
/-- A slice that is the one that was given, or lies in g0 part of its own. -/
def RSl (q0 : Value) (L0 : List Int) (q : Value) (T : List Int) (Y : Part) : Prop := (q = q0 ∧ T = L0) ∨ Els encI [Y] q T
theorem RSl.shape {q0 q : Value} {L0 T : List Int} {Y : Part} {R : List Part} (h : RSl q0 L0 q T Y) (h0 : Els encI R q0 L0) : ∃ A c, q = .slice A T.length c := by
  rcases h with ⟨rfl, rfl⟩ | h
  · obtain ⟨A, c, h, _⟩ := h0.shape; exact ⟨A, c, h⟩
  · obtain ⟨A, c, h, _⟩ := h.shape; exact ⟨A, c, h⟩
theorem els_nil {R : List Part} : Els encI R (.slice none 0 0) [] := ⟨⟨none, 0, rfl, fun h => absurd h (Nat.lt_irrefl _), Nat.zero_le _⟩, fun j x h => by simp at h⟩
theorem cidxI_nil (n o k : Nat) : cidxI n o k 0 = [] := by unfold cidxI; rw [idx_nil]; rfl
theorem rbest_spec {e : Env} (xs : List Pcl) (hn : xs.length ≤ 24) (hx : ∀ x ∈ xs, Pok x) (m : Int) (hm : m ≤ 16777216) : ∀ (n g0 : Nat), xs.length - g0 = n → g0 ≤ xs.length → ∀ (v0 q : Value) (Lc : List Int) (cw cs : Int) (w : World) (rs : List Part), Tot e w rs → Els encPl rs v0 xs → Els encI rs q Lc → ((Lc = [] ∧ g0 = 0) ∨ (0 < g0 ∧ ∃ M, Lc = M ++ [(g0 : Int) - 1])) → Lc.length ≤ g0 → 0 ≤ cw → cw ≤ 1048576 * (g0 : Int) → 0 ≤ cs → cs ≤ m →
    Spec Try.prog 83 #[v0, .int .i64 m, .agg #[q, .int .i64 cw, .int .i64 cs]] e w rs (fun v L => ∃ q' t Y, v = .agg #[q', .int .i64 (cw + t.w), .int .i64 (cs + t.s)] ∧ Top (fun y => y ∈ all (xs.drop g0) (24 - g0) ∧ y.s ≤ m - cs) t ∧ RSl q Lc q' (Lc ++ cidxI (xs.length - g0) (24 - g0) g0 t.b) Y ∧ L = [Y]) := by
  intro n
  induction n using Nat.strongRecOn with
  | _ n ih =>
  intro g0 hin ha v0 q Lc cw cs w rs hT hE hL hfrom hLl hw1 hw2 hs1 hs2
  subst hin
  obtain ⟨A1, c1, rfl, hA1, hm1⟩ := hL.shape
  refine spec_body Try.func83 rfl Try.ntmps83 rfl rfl ?_
  intro a hf
  refine wpIn_seq ?_
  -- region 0 (ref.go:193)
  refine wp_reg ([]) ([] ++ rs) [(0, false), (1, false)] mixed (by kernel_rfl) (hT) ?_; intro w hT
  refine ef hf hT rfl rfl (ef_box rfl) rfl (l' := [(0, _), (1, _), (2, _)]) rfl ?_; rintro a w v L ⟨b1, rfl, rfl⟩ hf hT
  refine ef hf hT rfl rfl (ef_alloc zr_147) rfl (l' := [(5, _), (0, _), (1, _), (2, _)]) rfl ?_; rintro a w v L ⟨b2, rfl, rfl⟩ hf hT
  refine plan_nil ?_
  refine wpIn_seq ?_
  -- region 1 (ref.go:194)
  refine wp_reg ([]) ([_, _] ++ rs) [(0, true), (1, false), (2, false)] mixed (by kernel_rfl) (hT) ?_; intro w hT
  refine rd hf rfl (yl_loadB Try.underlying147 rfl sz_147 (vs := [.slice A1 Lc.length c1, .int .i64 cw, .int .i64 cs]) (.tail _ (.head _)) rfl (pt_self _ _) rfl rfl) rfl rfl ?_; intro a hf
  refine ef hf hT rfl rfl (ef_alloc zr_147) rfl (l' := [(11, _), (6, _), (5, _), (0, _), (1, _), (2, _)]) rfl ?_; rintro a w v L ⟨b3, rfl, rfl⟩ hf hT
  refine efS hf hT rfl rfl (ef_storeW rfl rfl sz_147 rfl rfl rfl) ?_; rintro w L rfl hT
  refine plan_nil ?_
  refine wpIn_seq ?_
  -- region 2 (ref.go:195)
  refine wp_reg ([]) ([_, _, _] ++ rs) [(0, true)] mixed (by kernel_rfl) (hT) ?_; intro w hT
  refine rd hf rfl (yl_assign rfl) rfl rfl ?_; intro a hf
  refine plan_nil ?_
  refine wpIn_seq ?_
  refine wpIn_seq ?_
  -- region 3 (ref.go:196)
  refine wp_reg ([]) ([_, _, _] ++ rs) [(0, true), (1, true), (2, true), (3, true)] mixed (by kernel_rfl) (hT) ?_; intro w hT
  refine rd hf rfl (yl_faddr Try.underlying147 rfl rfl sz_82 (k := 0) rfl) rfl rfl ?_; intro a hf
  refine rd hf rfl (yl_load Try.underlying82 rfl rfl ⟨_, .tail _ (.tail _ (.head _)), _, _, _, pt_self _ _, rfl⟩) rfl rfl ?_; intro a hf
  refine rd hf rfl (yl_lenE rfl Try.underlying82 hL.app) rfl rfl ?_; intro a hf
  refine rd hf rfl (yl_cmp rfl rfl rfl) rfl rfl ?_; intro a hf
  refine plan_nil ?_
  replace hf := hf.sel [15, 8, 7, 6, 5, 0, 1] (l' := [(15, _), (8, _), (7, _), (6, _), (5, _), (0, _), (1, _)]) rfl
  have hf0 := hf.sel [7, 6, 5, 0, 1] (l' := [(7, _), (6, _), (5, _), (0, _), (1, _)]) rfl
  refine wp_cut (σ := Unit) (L0 := []) (R := [_, _, _] ++ rs) hf0 hT (fun _u => [(8, .int .i64 (g0 : Nat))]) (fun _u L => L = []) ?_ ?_
  · clear hf0
    refine wp_ifd hf rfl (fun hne => ?_) (fun hne => ?_)
    · -- then
      obtain ⟨hap, M, hM⟩ := hfrom.resolve_left (fun h => by rw [h.1] at hne; simp at hne)
      have hj : Lc[((Lc.length : Int) - 1).toNat]? = some ((g0 : Int) - 1) := by rw [show ((Lc.length : Int) - 1).toNat = Lc.length - 1 by omega]; subst hM; simp
      -- region 4 (ref.go:197)
      refine wp_reg ([]) ([_, _, _] ++ rs) [(0, true), (1, true), (2, true), (3, true), (4, true), (5, true), (6, true), (7, true), (8, true), (9, true)] mixed (by kernel_rfl) (hT) ?_; intro w hT
      refine rd hf rfl (yl_faddr Try.underlying147 rfl rfl sz_82 (k := 0) rfl) rfl rfl ?_; intro a hf
      refine rd hf rfl (yl_load Try.underlying82 rfl rfl ⟨_, .tail _ (.tail _ (.head _)), _, _, _, pt_self _ _, rfl⟩) rfl rfl ?_; intro a hf
      refine rd hf rfl (yl_faddr Try.underlying147 rfl rfl sz_82 (k := 0) rfl) rfl rfl ?_; intro a hf
      refine rd hf rfl (yl_load Try.underlying82 rfl rfl ⟨_, .tail _ (.tail _ (.head _)), _, _, _, pt_self _ _, rfl⟩) rfl rfl ?_; intro a hf
      refine rd hf rfl (yl_lenE rfl Try.underlying82 hL.app) rfl rfl ?_; intro a hf
      refine rd hf rfl (yl_sub rfl rfl (by unfold inI64; omega)) rfl rfl ?_; intro a hf
      refine rd hf rfl (yl_indexE rfl rfl Try.underlying82 sz_3 hL.app (by omega) (by omega)) rfl rfl ?_; intro a hf
      refine rd hf rfl (yl_load Try.underlying3 rfl rfl (hL.app.cell hj (f := 0) rfl)) rfl rfl ?_; intro a hf
      refine rd hf rfl (yl_add rfl rfl (by unfold inI64; omega)) rfl rfl ?_; intro a hf
      refine rw_ hf rfl (yl_assign rfl) rfl (l' := [(8, _), (24, _), (23, _), (22, _), (21, _), (20, _), (19, _), (18, _), (17, _), (16, _), (15, _), (7, _), (6, _), (5, _), (0, _), (1, _)]) rfl ?_; intro a hf
      refine plan_nil ?_
      rw [show (g0 : Int) - 1 + 1 = (g0 : Int) by omega] at hf
      replace hf := hf.sel [8, 7, 6, 5, 0, 1] (l' := [(8, _), (7, _), (6, _), (5, _), (0, _), (1, _)]) rfl
      exact ⟨(), _, hf.sel [8, 7, 6, 5, 0, 1] rfl, rfl, hT⟩
    · -- else
      obtain ⟨_, h0a⟩ := hfrom.resolve_right (fun h => by obtain ⟨_, M, hM⟩ := h; apply hne; rw [hM, List.length_append]; simp only [List.length_cons, List.length_nil]; omega)
      rw [show (0 : Int) = ((g0 : Nat) : Int) by omega] at hf
      refine wpIn_skip ?_
      exact ⟨(), _, hf.sel [8, 7, 6, 5, 0, 1] rfl, rfl, hT⟩
  · clear hf0 hf hT; rintro _u a w L hf rfl hT
    replace hf : Fr _ [(8, .int .i64 (g0 : Nat)), (7, _), (6, _), (5, _), (0, _), (1, _)] _ _ := hf
    refine wpIn_seq ?_
    refine wpIn_seq ?_
    -- region 5 (ref.go:199)
    refine wp_reg ([]) ([_, _, _] ++ rs) [(0, true), (1, true)] mixed (by kernel_rfl) (hT) ?_; intro w hT
    refine rd hf rfl (yl_move rfl) rfl rfl ?_; intro a hf
    refine rd hf rfl (yl_assign rfl) rfl rfl ?_; intro a hf
    refine plan_nil ?_
    refine wpIn_block ?_
    replace hT := hT.emp
    replace hT := hT.bring 1
    refine wp_loopS (σ := Nat × Ch × Value × Int × Int) (fun (i, t, q', tw, ts) => [(9, .int .i64 (i : Nat))]) [(7, _), (6, _), (5, _), (0, _), (1, _)] (fun (i, t, q', tw, ts) L => g0 ≤ i ∧ i ≤ xs.length ∧ Chn xs (m - cs) g0 i t ∧ tw = cw + t.w ∧ ts = cs + t.s ∧ ∃ Y, RSl (.slice A1 Lc.length c1) Lc q' (Lc ++ cidxI (xs.length - g0) (24 - g0) g0 t.b) Y ∧ L = [pt b3 (.cells #[q', .int .i64 tw, .int .i64 ts] 147), Y]) (fun (i, t, q', tw, ts) => xs.length - i) (g0, Ch.zero, .slice A1 Lc.length c1, cw, cs) (L := [_, _]) (R := [_, _] ++ rs) (hf.sel [9, 7, 6, 5, 0, 1] rfl) (⟨Nat.le_refl _, ha, Chn.start hn hx ha (by omega), (Int.add_zero _).symm, (Int.add_zero _).symm, _, .inl ⟨rfl, by rw [show Ch.zero.b = 0 from rfl, cidxI_nil, List.append_nil]⟩, rfl⟩) hT ?_
    clear hf hT; rintro ⟨i, t, q', tw, ts⟩ a w L hf ⟨hai, hi2, hch, htw, hts, Y, hR, rfl⟩ hT
    replace hf : Fr _ [(9, .int .i64 (i : Nat)), (7, _), (6, _), (5, _), (0, _), (1, _)] _ _ := hf
    obtain ⟨A2, c2, rfl⟩ := hR.shape hL
    refine wpIn_seq ?_
    refine wpIn_seq ?_
    -- region 6 (ref.go:199)
    refine wp_reg ([]) ([_, _, _, _] ++ rs) [(0, true), (1, true), (2, true), (3, true)] mixed (by kernel_rfl) (hT) ?_; intro w hT
    refine rd hf rfl (yl_move rfl) rfl rfl ?_; intro a hf
    refine rd hf rfl (yl_move rfl) rfl rfl ?_; intro a hf
    refine rd hf rfl (yl_lenE rfl Try.underlying81 hE.app) rfl rfl ?_; intro a hf
    refine rd hf rfl (yl_cmp rfl rfl rfl) rfl rfl ?_; intro a hf
    refine plan_nil ?_
    replace hf := hf.sel [29, 9, 7, 6, 5, 0, 1] (l' := [(29, _), (9, _), (7, _), (6, _), (5, _), (0, _), (1, _)]) rfl
    refine wp_ifd hf rfl (fun hlt => ?_) (fun hlt => ?_)
    · -- then
      have hlti : i < xs.length := by omega
      obtain ⟨x, hj⟩ : ∃ x, xs[i]? = some x := ⟨xs[i], List.getElem?_eq_getElem hlti⟩
      have hpx := hx x (List.mem_of_getElem? hj)
      obtain ⟨p1, p2, p3, p4⟩ := hpx
      refine wpIn_skip ?_
      refine wpIn_seq ?_
      refine wpIn_block ?_
      refine wpIn_seq ?_
      refine wpIn_seq ?_
      -- region 8 (ref.go:200)
      refine wp_reg ([]) ([_, _, _, _] ++ rs) [(0, true), (1, true), (2, true), (3, true), (4, true), (5, true), (6, true), (7, true), (8, true), (9, true)] mixed (by kernel_rfl) (hT) ?_; intro w hT
      refine rd hf rfl (yl_faddr Try.underlying147 rfl rfl sz_2 (k := 2) rfl) rfl rfl ?_; intro a hf
      refine rd hf rfl (yl_load Try.underlying2 rfl rfl ⟨_, .tail _ (.tail _ (.tail _ (.head _))), _, _, _, pt_self _ _, rfl⟩) rfl rfl ?_; intro a hf
      refine rd hf rfl (yl_move rfl) rfl rfl ?_; intro a hf
      refine rd hf rfl (yl_move rfl) rfl rfl ?_; intro a hf
      refine rd hf rfl (yl_indexE rfl rfl Try.underlying81 sz_90 hE.app (by omega) (by omega)) rfl rfl ?_; intro a hf
      refine rd hf rfl (yl_faddr Try.underlying90 rfl rfl sz_2 rfl) rfl rfl ?_; intro a hf
      refine rd hf rfl (yl_load Try.underlying2 rfl rfl (hE.app.cell hj (f := 0) rfl)) rfl rfl ?_; intro a hf
      refine rd hf rfl (yl_add rfl rfl (by unfold inI64; omega)) rfl rfl ?_; intro a hf
      refine rd hf rfl (yl_move rfl) rfl rfl ?_; intro a hf
      refine rd hf rfl (yl_cmp rfl rfl rfl) rfl rfl ?_; intro a hf
      refine plan_nil ?_
      replace hf := hf.sel [41, 9, 7, 6, 5, 0, 1] (l' := [(41, _), (9, _), (7, _), (6, _), (5, _), (0, _), (1, _)]) rfl
      refine wp_ifd hf rfl (fun hbig => ?_) (fun hbig => ?_)
      · -- then
        refine wpIn_exit ?_
        refine then_exit ?_
        refine inBlock_hit ?_
        -- region 7 (ref.go:199)
        refine wp_reg ([]) ([_, _, _, _] ++ rs) [(0, true), (1, true), (2, true)] mixed (by kernel_rfl) (hT) ?_; intro w hT
        refine rd hf rfl (yl_move rfl) rfl rfl ?_; intro a hf
        refine rd hf rfl (yl_add rfl rfl (by unfold inI64; omega)) rfl rfl ?_; intro a hf
        refine rw_ hf rfl (yl_assign rfl) rfl (l' := [(9, _), (31, _), (30, _), (41, _), (7, _), (6, _), (5, _), (0, _), (1, _)]) rfl ?_; intro a hf
        refine plan_nil ?_
        replace hf := hf.sel [9, 7, 6, 5, 0, 1] (l' := [(9, _), (7, _), (6, _), (5, _), (0, _), (1, _)]) rfl
        exact ⟨(i + 1, t, _, tw, ts), _, hf.sel [9, 7, 6, 5, 0, 1] rfl, ⟨by omega, by omega, hch.skip hn hx hai x hj (by omega), htw, hts, Y, hR, rfl⟩, hT, by first | omega | (dsimp only; omega)⟩
      · -- else
        refine wpIn_skip ?_
        refine wpIn_seq ?_
        have hf0 := hf.sel [9, 7, 6, 5, 0, 1] (l' := [(9, _), (7, _), (6, _), (5, _), (0, _), (1, _)]) rfl
        refine wp_cut (σ := Nat × Value × Ch) (L0 := []) (R := [_, _, _, _] ++ rs) hf0 hT (fun (bn, qr, z) => [(10, .pointer (some ⟨bn, 0, none⟩))]) (fun (bn, qr, z) L => Top (fun y => y ∈ all (xs.drop (i + 1)) (24 - (i + 1)) ∧ x.sz + y.s ≤ m - cs) z ∧ ∃ Y1, Els encI [Y1] qr (Lc ++ cidxI (xs.length - g0) (24 - g0) g0 ((unit x (23 - i)).add z).b) ∧ L = [pt bn (.cells #[qr, .int .i64 (cw + x.wo + z.w), .int .i64 (cs + x.sz + z.s)] 147), Y1]) ?_ ?_
        · clear hf0
          -- region 9 (ref.go:203)
          refine wp_regT ([]) ([_, _, _, _] ++ rs) (.op 0 true (.op 1 true (.op 3 true (.op 4 true (.op 6 true (.op 9 true (.op 10 true (.op 11 true (.op 12 true (.op 13 true (.op 14 true (.op 15 true (.op 16 true (.op 17 true (.op 18 true (.op 19 true (.op 20 true (.op 21 true (.op 22 true (.op 23 true (.op 24 true (.or (.op 2 false (.or (.op 5 false (.or (.op 7 false (.or (.op 8 false (.op 25 true (.or (.fin [(26, false), (27, false), (28, false)]) (.fin [(27, false), (26, false), (28, false)])))) (.fin [(27, false), (8, false), (25, true), (26, false), (28, false)]))) (.fin [(27, false), (7, false), (8, false), (25, true), (26, false), (28, false)]))) (.or (.op 7 false (.or (.op 5 false (.or (.op 8 false (.op 25 true (.or (.fin [(26, false), (27, false), (28, false)]) (.fin [(27, false), (26, false), (28, false)])))) (.fin [(27, false), (8, false), (25, true), (26, false), (28, false)]))) (.fin [(27, false), (5, false), (8, false), (25, true), (26, false), (28, false)]))) (.op 27 false (.or (.fin [(5, false), (7, false), (8, false), (25, true), (26, false), (28, false)]) (.fin [(7, false), (5, false), (8, false), (25, true), (26, false), (28, false)])))))) (.or (.op 7 false (.or (.op 2 false (.or (.op 5 false (.or (.op 8 false (.op 25 true (.or (.fin [(26, false), (27, false), (28, false)]) (.fin [(27, false), (26, false), (28, false)])))) (.fin [(27, false), (8, false), (25, true), (26, false), (28, false)]))) (.fin [(27, false), (5, false), (8, false), (25, true), (26, false), (28, false)]))) (.fin [(27, false), (2, false), (5, false), (8, false), (25, true), (26, false), (28, false)]))) (.op 27 false (.or (.op 2 false (.or (.fin [(5, false), (7, false), (8, false), (25, true), (26, false), (28, false)]) (.fin [(7, false), (5, false), (8, false), (25, true), (26, false), (28, false)]))) (.fin [(7, false), (2, false), (5, false), (8, false), (25, true), (26, false), (28, false)])))))))))))))))))))))))))) mixed (by kernel_rfl) (hT) ?_; intro w hT
          refine planT_op ?_
          refine rd hf rfl (yl_move rfl) rfl rfl ?_; intro a hf
          refine plan_go hT.allR ?_
          refine planT_op ?_
          refine rd hf rfl (yl_move rfl) rfl rfl ?_; intro a hf
          refine plan_go hT.allR ?_
          refine planT_op ?_
          refine rd hf rfl (yl_faddr Try.underlying147 rfl rfl sz_82 (k := 0) rfl) rfl rfl ?_; intro a hf
          refine plan_go hT.allR ?_
          refine planT_op ?_
          refine rd hf rfl (yl_load Try.underlying82 rfl rfl ⟨_, .tail _ (.tail _ (.tail _ (.head _))), _, _, _, pt_self _ _, rfl⟩) rfl rfl ?_; intro a hf
          refine plan_go hT.allR ?_
          refine planT_op ?_
          refine rd hf rfl (yl_move rfl) rfl rfl ?_; intro a hf
          refine plan_go hT.allR ?_
          refine planT_op ?_
          refine rd hf rfl (yl_faddr Try.underlying147 rfl rfl sz_2 (k := 1) rfl) rfl rfl ?_; intro a hf
          refine plan_go hT.allR ?_
          refine planT_op ?_
          refine rd hf rfl (yl_load Try.underlying2 rfl rfl ⟨_, .tail _ (.tail _ (.tail _ (.head _))), _, _, _, pt_self _ _, rfl⟩) rfl rfl ?_; intro a hf
          refine plan_go hT.allR ?_
          refine planT_op ?_
          refine rd hf rfl (yl_move rfl) rfl rfl ?_; intro a hf
          refine plan_go hT.allR ?_
          refine planT_op ?_
          refine rd hf rfl (yl_move rfl) rfl rfl ?_; intro a hf
          refine plan_go hT.allR ?_
          refine planT_op ?_
          refine rd hf rfl (yl_indexE rfl rfl Try.underlying81 sz_90 hE.app (by omega) (by omega)) rfl rfl ?_; intro a hf
          refine plan_go hT.allR ?_
          refine planT_op ?_
          refine rd hf rfl (yl_faddr Try.underlying90 rfl rfl sz_2 rfl) rfl rfl ?_; intro a hf
          refine plan_go hT.allR ?_
          refine planT_op ?_
          refine rd hf rfl (yl_load Try.underlying2 rfl rfl (hE.app.cell hj (f := 1) rfl)) rfl rfl ?_; intro a hf
          refine plan_go hT.allR ?_
          refine planT_op ?_
          refine rd hf rfl (yl_add rfl rfl (by unfold inI64; omega)) rfl rfl ?_; intro a hf
          refine plan_go hT.allR ?_
          refine planT_op ?_
          refine rd hf rfl (yl_faddr Try.underlying147 rfl rfl sz_2 (k := 2) rfl) rfl rfl ?_; intro a hf
          refine plan_go hT.allR ?_
          refine planT_op ?_
          refine rd hf rfl (yl_load Try.underlying2 rfl rfl ⟨_, .tail _ (.tail _ (.tail _ (.head _))), _, _, _, pt_self _ _, rfl⟩) rfl rfl ?_; intro a hf
          refine plan_go hT.allR ?_
          refine planT_op ?_
          refine rd hf rfl (yl_move rfl) rfl rfl ?_; intro a hf
          refine plan_go hT.allR ?_
          refine planT_op ?_
          refine rd hf rfl (yl_move rfl) rfl rfl ?_; intro a hf
          refine plan_go hT.allR ?_
          refine planT_op ?_
          refine rd hf rfl (yl_indexE rfl rfl Try.underlying81 sz_90 hE.app (by omega) (by omega)) rfl rfl ?_; intro a hf
          refine plan_go hT.allR ?_
          refine planT_op ?_
          refine rd hf rfl (yl_faddr Try.underlying90 rfl rfl sz_2 rfl) rfl rfl ?_; intro a hf
          refine plan_go hT.allR ?_
          refine planT_op ?_
          refine rd hf rfl (yl_load Try.underlying2 rfl rfl (hE.app.cell hj (f := 0) rfl)) rfl rfl ?_; intro a hf
          refine plan_go hT.allR ?_
          refine planT_op ?_
          refine rd hf rfl (yl_add rfl rfl (by unfold inI64; omega)) rfl rfl ?_; intro a hf
          refine plan_go hT.allR ?_
          refine planT_or ?_ (planT_or ?_ ?_)
          · skip
            refine planT_op ?_
            refine ef hf hT rfl rfl (ef_buildSlice0 (E := encI) Try.underlying82 zs_3) rfl (l' := [(66, _), (65, _), (64, _), (63, _), (62, _), (61, _), (60, _), (59, _), (58, _), (57, _), (56, _), (55, _), (54, _), (53, _), (52, _), (51, _), (48, _), (46, _), (45, _), (43, _), (42, _), (41, _), (9, _), (7, _), (6, _), (5, _), (0, _), (1, _)]) rfl ?_; rintro a w e0 L ⟨b4, p1, hvp1, hp1, rfl⟩ hf hT
            refine plan_go hT.allR ?_
            refine planT_or ?_ (planT_or ?_ ?_)
            · skip
              refine planT_op ?_
              refine ef hf hT rfl rfl (ef_append (E := encI) (L := []) rfl rfl Try.underlying82 zb_3 rfl hp1 (hL.app.app) (by simp; omega) (by simp [maxLen]; omega)) rfl (l' := [(44, _), (66, _), (65, _), (64, _), (63, _), (62, _), (61, _), (60, _), (59, _), (58, _), (57, _), (56, _), (55, _), (54, _), (53, _), (52, _), (51, _), (48, _), (46, _), (45, _), (43, _), (42, _), (41, _), (9, _), (7, _), (6, _), (5, _), (0, _), (1, _)]) rfl ?_; rintro a w e1 L ⟨X1, hS1, rfl⟩ hf hT
              refine plan_go hT.allR ?_
              refine planT_or ?_ ?_
              · skip
                refine planT_op ?_
                refine ef hf hT rfl rfl (ef_buildSlice (E := encI) (xs := [(i : Int)]) rfl rfl Try.underlying82 zs_3 rfl (by decide) rfl (by decide)) rfl (l' := [(47, _), (44, _), (66, _), (65, _), (64, _), (63, _), (62, _), (61, _), (60, _), (59, _), (58, _), (57, _), (56, _), (55, _), (54, _), (53, _), (52, _), (51, _), (48, _), (46, _), (45, _), (43, _), (42, _), (41, _), (9, _), (7, _), (6, _), (5, _), (0, _), (1, _)]) rfl ?_; rintro a w one L ⟨b5, p2, hvp2, hp2, rfl⟩ hf hT
                refine plan_go hT.allR ?_
                refine planT_or ?_ ?_
                · skip
                  refine planT_op ?_
                  replace hT : Tot _ _ ([_, _] ++ ([_, _, _, _] ++ rs)) := hT.bring 1
                  refine ef hf hT rfl rfl (ef_append (E := encI) (L := [_]) rfl rfl Try.underlying82 zb_3 rfl hS1 (hp2.els (.tail _ (.head _))) (by simp; omega) (by simp [maxLen]; omega)) rfl (l' := [(49, _), (47, _), (44, _), (66, _), (65, _), (64, _), (63, _), (62, _), (61, _), (60, _), (59, _), (58, _), (57, _), (56, _), (55, _), (54, _), (53, _), (52, _), (51, _), (48, _), (46, _), (45, _), (43, _), (42, _), (41, _), (9, _), (7, _), (6, _), (5, _), (0, _), (1, _)]) rfl ?_; rintro a w e2 L ⟨X2, hS2, rfl⟩ hf hT
                  obtain ⟨A3, c3, rfl, hc3⟩ := hS2.shape
                  refine plan_go hT.allR ?_
                  refine planT_op ?_
                  refine rd hf rfl (yl_build rfl Try.underlying147 zr_147 (places := [(0, 1), (1, 1), (2, 1)]) (by kernel_rfl) (by kernel_rfl) rfl) rfl rfl ?_; intro a hf
                  refine plan_go hT.allR ?_
                  refine planT_or ?_ ?_
                  · skip
                    refine planT_fin ?_
                    refine ef_call hf rfl (wanted_none _ _ rfl) rfl rfl (by kernel_rfl) (Spec.frame (L2 := [_, _]) (ih (xs.length - (i + 1)) (by omega) (i + 1) rfl (by omega) _ _ (Lc ++ [(i : Int)]) (cw + x.wo) (cs + x.sz) _ _ hT hE.app.app (hS2.els (.head _)) (.inr ⟨by omega, Lc, by simp⟩) (by simp; omega) (by omega) (by omega) (by omega) (by omega))) rfl (l' := [(67, _), (50, _), (49, _), (47, _), (44, _), (66, _), (65, _), (64, _), (63, _), (62, _), (61, _), (60, _), (59, _), (58, _), (57, _), (56, _), (55, _), (54, _), (53, _), (52, _), (51, _), (48, _), (46, _), (45, _), (43, _), (42, _), (41, _), (9, _), (7, _), (6, _), (5, _), (0, _), (1, _)]) rfl ?_; rintro a w v L ⟨L1, ⟨qr, z, Yr, rfl, hz, hR2, rfl⟩, rfl⟩ hf hT
                    obtain ⟨Ar, cr, rfl⟩ := hR2.shape (hS2.els (R := [_]) (List.mem_cons_self ..))
                    refine ef hf hT rfl rfl (ef_alloc zr_147) rfl (l' := [(68, _), (67, _), (50, _), (49, _), (47, _), (44, _), (66, _), (65, _), (64, _), (63, _), (62, _), (61, _), (60, _), (59, _), (58, _), (57, _), (56, _), (55, _), (54, _), (53, _), (52, _), (51, _), (48, _), (46, _), (45, _), (43, _), (42, _), (41, _), (9, _), (7, _), (6, _), (5, _), (0, _), (1, _)]) rfl ?_; rintro a w v L ⟨b6, rfl, rfl⟩ hf hT
                    refine efS hf hT rfl rfl (ef_storeW rfl rfl sz_147 rfl rfl rfl) ?_; rintro w L rfl hT
                    refine plan_nil ?_
                    replace hf := hf.sel [10, 9, 7, 6, 5, 0, 1] (l' := [(10, _), (9, _), (7, _), (6, _), (5, _), (0, _), (1, _)]) rfl
                    have hTT : (Lc ++ [(i : Int)]) ++ cidxI (xs.length - (i + 1)) (24 - (i + 1)) (i + 1) z.b = Lc ++ cidxI (xs.length - g0) (24 - g0) g0 ((unit x (23 - i)).add z).b := by
                      unfold cidxI; rw [idx_new hn hx hai hlti x z hz.mem.1]; simp
                    have hz' : Top (fun y => y ∈ all (xs.drop (i + 1)) (24 - (i + 1)) ∧ x.sz + y.s ≤ m - cs) z := ⟨⟨hz.mem.1, by have := hz.mem.2; omega⟩, fun y hy => hz.max y ⟨hy.1, by have := hy.2; omega⟩⟩
                    rcases hR2 with ⟨he, hl⟩ | hY
                    · skip
                      exact ⟨(b6, _, z), _, hf.sel [10, 9, 7, 6, 5, 0, 1] rfl, ⟨hz', _, by rw [hl] at he; rw [← hTT, hl, he]; exact hS2.els (List.mem_cons_self ..), rfl⟩, (hT.brings [3, 2]).tail.tail⟩
                    · skip
                      exact ⟨(b6, _, z), _, hf.sel [10, 9, 7, 6, 5, 0, 1] rfl, ⟨hz', _, by rw [← hTT]; exact hY, rfl⟩, (hT.brings [3, 3]).tail.tail⟩
                  · skip
                    refine planT_fin ?_
                    refine ef hf hT rfl rfl (ef_alloc zr_147) rfl (l' := [(67, _), (50, _), (49, _), (47, _), (44, _), (66, _), (65, _), (64, _), (63, _), (62, _), (61, _), (60, _), (59, _), (58, _), (57, _), (56, _), (55, _), (54, _), (53, _), (52, _), (51, _), (48, _), (46, _), (45, _), (43, _), (42, _), (41, _), (9, _), (7, _), (6, _), (5, _), (0, _), (1, _)]) rfl ?_; rintro a w v L ⟨b7, rfl, rfl⟩ hf hT
                    refine ef_call hf rfl (wanted_none _ _ rfl) rfl rfl (by kernel_rfl) (Spec.frame (L2 := [_, _, _]) (ih (xs.length - (i + 1)) (by omega) (i + 1) rfl (by omega) _ _ (Lc ++ [(i : Int)]) (cw + x.wo) (cs + x.sz) _ _ hT hE.app.app (hS2.els (.tail _ (.head _))) (.inr ⟨by omega, Lc, by simp⟩) (by simp; omega) (by omega) (by omega) (by omega) (by omega))) rfl (l' := [(10, _), (67, _), (50, _), (49, _), (47, _), (44, _), (66, _), (65, _), (64, _), (63, _), (62, _), (61, _), (60, _), (59, _), (58, _), (57, _), (56, _), (55, _), (54, _), (53, _), (52, _), (51, _), (48, _), (46, _), (45, _), (43, _), (42, _), (41, _), (9, _), (7, _), (6, _), (5, _), (0, _), (1, _)]) rfl ?_; rintro a w v L ⟨L1, ⟨qr, z, Yr, rfl, hz, hR2, rfl⟩, rfl⟩ hf hT
                    obtain ⟨Ar, cr, rfl⟩ := hR2.shape (hS2.els (R := [_]) (List.mem_cons_self ..))
                    replace hT : Tot _ _ ([_, _, _, _] ++ ([_, _, _, _] ++ rs)) := hT.bring 1
                    refine efS hf hT rfl rfl (ef_storeW rfl rfl sz_147 rfl rfl rfl) ?_; rintro w L rfl hT
                    refine plan_nil ?_
                    replace hf := hf.sel [10, 9, 7, 6, 5, 0, 1] (l' := [(10, _), (9, _), (7, _), (6, _), (5, _), (0, _), (1, _)]) rfl
                    have hTT : (Lc ++ [(i : Int)]) ++ cidxI (xs.length - (i + 1)) (24 - (i + 1)) (i + 1) z.b = Lc ++ cidxI (xs.length - g0) (24 - g0) g0 ((unit x (23 - i)).add z).b := by
                      unfold cidxI; rw [idx_new hn hx hai hlti x z hz.mem.1]; simp
                    have hz' : Top (fun y => y ∈ all (xs.drop (i + 1)) (24 - (i + 1)) ∧ x.sz + y.s ≤ m - cs) z := ⟨⟨hz.mem.1, by have := hz.mem.2; omega⟩, fun y hy => hz.max y ⟨hy.1, by have := hy.2; omega⟩⟩
                    rcases hR2 with ⟨he, hl⟩ | hY
                    · skip
                      exact ⟨(b7, _, z), _, hf.sel [10, 9, 7, 6, 5, 0, 1] rfl, ⟨hz', _, by rw [hl] at he; rw [← hTT, hl, he]; exact hS2.els (List.mem_cons_self ..), rfl⟩, (hT.brings [3, 2]).tail.tail⟩
                    · skip
                      exact ⟨(b7, _, z), _, hf.sel [10, 9, 7, 6, 5, 0, 1] rfl, ⟨hz', _, by rw [← hTT]; exact hY, rfl⟩, (hT.brings [3, 3]).tail.tail⟩
                · skip
                  refine planT_fin ?_
                  refine ef hf hT rfl rfl (ef_alloc zr_147) rfl (l' := [(49, _), (47, _), (44, _), (66, _), (65, _), (64, _), (63, _), (62, _), (61, _), (60, _), (59, _), (58, _), (57, _), (56, _), (55, _), (54, _), (53, _), (52, _), (51, _), (48, _), (46, _), (45, _), (43, _), (42, _), (41, _), (9, _), (7, _), (6, _), (5, _), (0, _), (1, _)]) rfl ?_; rintro a w v L ⟨b8, rfl, rfl⟩ hf hT
                  replace hT : Tot _ _ ([_, _, _] ++ ([_, _, _, _] ++ rs)) := hT.bring 2
                  refine ef hf hT rfl rfl (ef_append (E := encI) (L := [_, _]) rfl rfl Try.underlying82 zb_3 rfl hS1 (hp2.els (.tail _ (.tail _ (.head _)))) (by simp; omega) (by simp [maxLen]; omega)) rfl (l' := [(10, _), (49, _), (47, _), (44, _), (66, _), (65, _), (64, _), (63, _), (62, _), (61, _), (60, _), (59, _), (58, _), (57, _), (56, _), (55, _), (54, _), (53, _), (52, _), (51, _), (48, _), (46, _), (45, _), (43, _), (42, _), (41, _), (9, _), (7, _), (6, _), (5, _), (0, _), (1, _)]) rfl ?_; rintro a w e2 L ⟨X3, hS3, rfl⟩ hf hT
                  obtain ⟨A3, c3, rfl, hc3⟩ := hS3.shape
                  refine rd hf rfl (yl_build rfl Try.underlying147 zr_147 (places := [(0, 1), (1, 1), (2, 1)]) (by kernel_rfl) (by kernel_rfl) rfl) rfl rfl ?_; intro a hf
                  refine ef_call hf rfl (wanted_none _ _ rfl) rfl rfl (by kernel_rfl) (Spec.frame (L2 := [_, _, _]) (ih (xs.length - (i + 1)) (by omega) (i + 1) rfl (by omega) _ _ (Lc ++ [(i : Int)]) (cw + x.wo) (cs + x.sz) _ _ hT hE.app.app (hS3.els (.head _)) (.inr ⟨by omega, Lc, by simp⟩) (by simp; omega) (by omega) (by omega) (by omega) (by omega))) rfl (l' := [(67, _), (50, _), (10, _), (49, _), (47, _), (44, _), (66, _), (65, _), (64, _), (63, _), (62, _), (61, _), (60, _), (59, _), (58, _), (57, _), (56, _), (55, _), (54, _), (53, _), (52, _), (51, _), (48, _), (46, _), (45, _), (43, _), (42, _), (41, _), (9, _), (7, _), (6, _), (5, _), (0, _), (1, _)]) rfl ?_; rintro a w v L ⟨L1, ⟨qr, z, Yr, rfl, hz, hR2, rfl⟩, rfl⟩ hf hT
                  obtain ⟨Ar, cr, rfl⟩ := hR2.shape (hS3.els (R := [_]) (List.mem_cons_self ..))
                  replace hT : Tot _ _ ([_, _, _, _] ++ ([_, _, _, _] ++ rs)) := hT.bring 2
                  refine efS hf hT rfl rfl (ef_storeW rfl rfl sz_147 rfl rfl rfl) ?_; rintro w L rfl hT
                  refine plan_nil ?_
                  replace hf := hf.sel [10, 9, 7, 6, 5, 0, 1] (l' := [(10, _), (9, _), (7, _), (6, _), (5, _), (0, _), (1, _)]) rfl
                  have hTT : (Lc ++ [(i : Int)]) ++ cidxI (xs.length - (i + 1)) (24 - (i + 1)) (i + 1) z.b = Lc ++ cidxI (xs.length - g0) (24 - g0) g0 ((unit x (23 - i)).add z).b := by
                    unfold cidxI; rw [idx_new hn hx hai hlti x z hz.mem.1]; simp
                  have hz' : Top (fun y => y ∈ all (xs.drop (i + 1)) (24 - (i + 1)) ∧ x.sz + y.s ≤ m - cs) z := ⟨⟨hz.mem.1, by have := hz.mem.2; omega⟩, fun y hy => hz.max y ⟨hy.1, by have := hy.2; omega⟩⟩
                  rcases hR2 with ⟨he, hl⟩ | hY
                  · skip
                    exact ⟨(b8, _, z), _, hf.sel [10, 9, 7, 6, 5, 0, 1] rfl, ⟨hz', _, by rw [hl] at he; rw [← hTT, hl, he]; exact hS3.els (List.mem_cons_self ..), rfl⟩, (hT.brings [3, 2]).tail.tail⟩
                  · skip
                    exact ⟨(b8, _, z), _, hf.sel [10, 9, 7, 6, 5, 0, 1] rfl, ⟨hz', _, by rw [← hTT]; exact hY, rfl⟩, (hT.brings [3, 3]).tail.tail⟩
              · skip
                refine planT_fin ?_
                refine ef hf hT rfl rfl (ef_alloc zr_147) rfl (l' := [(47, _), (44, _), (66, _), (65, _), (64, _), (63, _), (62, _), (61, _), (60, _), (59, _), (58, _), (57, _), (56, _), (55, _), (54, _), (53, _), (52, _), (51, _), (48, _), (46, _), (45, _), (43, _), (42, _), (41, _), (9, _), (7, _), (6, _), (5, _), (0, _), (1, _)]) rfl ?_; rintro a w v L ⟨b9, rfl, rfl⟩ hf hT
                refine ef hf hT rfl rfl (ef_buildSlice (E := encI) (xs := [(i : Int)]) rfl rfl Try.underlying82 zs_3 rfl (by decide) rfl (by decide)) rfl (l' := [(10, _), (47, _), (44, _), (66, _), (65, _), (64, _), (63, _), (62, _), (61, _), (60, _), (59, _), (58, _), (57, _), (56, _), (55, _), (54, _), (53, _), (52, _), (51, _), (48, _), (46, _), (45, _), (43, _), (42, _), (41, _), (9, _), (7, _), (6, _), (5, _), (0, _), (1, _)]) rfl ?_; rintro a w one L ⟨b10, p3, hvp3, hp3, rfl⟩ hf hT
                replace hT : Tot _ _ ([_, _, _] ++ ([_, _, _, _] ++ rs)) := hT.bring 2
                refine ef hf hT rfl rfl (ef_append (E := encI) (L := [_, _]) rfl rfl Try.underlying82 zb_3 rfl hS1 (hp3.els (.tail _ (.head _))) (by simp; omega) (by simp [maxLen]; omega)) rfl (l' := [(49, _), (10, _), (47, _), (44, _), (66, _), (65, _), (64, _), (63, _), (62, _), (61, _), (60, _), (59, _), (58, _), (57, _), (56, _), (55, _), (54, _), (53, _), (52, _), (51, _), (48, _), (46, _), (45, _), (43, _), (42, _), (41, _), (9, _), (7, _), (6, _), (5, _), (0, _), (1, _)]) rfl ?_; rintro a w e2 L ⟨X4, hS4, rfl⟩ hf hT
                obtain ⟨A3, c3, rfl, hc3⟩ := hS4.shape
                refine rd hf rfl (yl_build rfl Try.underlying147 zr_147 (places := [(0, 1), (1, 1), (2, 1)]) (by kernel_rfl) (by kernel_rfl) rfl) rfl rfl ?_; intro a hf
                refine ef_call hf rfl (wanted_none _ _ rfl) rfl rfl (by kernel_rfl) (Spec.frame (L2 := [_, _, _]) (ih (xs.length - (i + 1)) (by omega) (i + 1) rfl (by omega) _ _ (Lc ++ [(i : Int)]) (cw + x.wo) (cs + x.sz) _ _ hT hE.app.app (hS4.els (.head _)) (.inr ⟨by omega, Lc, by simp⟩) (by simp; omega) (by omega) (by omega) (by omega) (by omega))) rfl (l' := [(67, _), (50, _), (49, _), (10, _), (47, _), (44, _), (66, _), (65, _), (64, _), (63, _), (62, _), (61, _), (60, _), (59, _), (58, _), (57, _), (56, _), (55, _), (54, _), (53, _), (52, _), (51, _), (48, _), (46, _), (45, _), (43, _), (42, _), (41, _), (9, _), (7, _), (6, _), (5, _), (0, _), (1, _)]) rfl ?_; rintro a w v L ⟨L1, ⟨qr, z, Yr, rfl, hz, hR2, rfl⟩, rfl⟩ hf hT
                obtain ⟨Ar, cr, rfl⟩ := hR2.shape (hS4.els (R := [_]) (List.mem_cons_self ..))
                replace hT : Tot _ _ ([_, _, _, _] ++ ([_, _, _, _] ++ rs)) := hT.bring 3
                refine efS hf hT rfl rfl (ef_storeW rfl rfl sz_147 rfl rfl rfl) ?_; rintro w L rfl hT
                refine plan_nil ?_
                replace hf := hf.sel [10, 9, 7, 6, 5, 0, 1] (l' := [(10, _), (9, _), (7, _), (6, _), (5, _), (0, _), (1, _)]) rfl
                have hTT : (Lc ++ [(i : Int)]) ++ cidxI (xs.length - (i + 1)) (24 - (i + 1)) (i + 1) z.b = Lc ++ cidxI (xs.length - g0) (24 - g0) g0 ((unit x (23 - i)).add z).b := by
                  unfold cidxI; rw [idx_new hn hx hai hlti x z hz.mem.1]; simp
                have hz' : Top (fun y => y ∈ all (xs.drop (i + 1)) (24 - (i + 1)) ∧ x.sz + y.s ≤ m - cs) z := ⟨⟨hz.mem.1, by have := hz.mem.2; omega⟩, fun y hy => hz.max y ⟨hy.1, by have := hy.2; omega⟩⟩
                rcases hR2 with ⟨he, hl⟩ | hY
                · skip
                  exact ⟨(b9, _, z), _, hf.sel [10, 9, 7, 6, 5, 0, 1] rfl, ⟨hz', _, by rw [hl] at he; rw [← hTT, hl, he]; exact hS4.els (List.mem_cons_self ..), rfl⟩, (hT.brings [3, 2]).tail.tail⟩
                · skip
                  exact ⟨(b9, _, z), _, hf.sel [10, 9, 7, 6, 5, 0, 1] rfl, ⟨hz', _, by rw [← hTT]; exact hY, rfl⟩, (hT.brings [3, 3]).tail.tail⟩
            · skip
              refine planT_op ?_
              refine ef hf hT rfl rfl (ef_buildSlice (E := encI) (xs := [(i : Int)]) rfl rfl Try.underlying82 zs_3 rfl (by decide) rfl (by decide)) rfl (l' := [(44, _), (66, _), (65, _), (64, _), (63, _), (62, _), (61, _), (60, _), (59, _), (58, _), (57, _), (56, _), (55, _), (54, _), (53, _), (52, _), (51, _), (48, _), (46, _), (45, _), (43, _), (42, _), (41, _), (9, _), (7, _), (6, _), (5, _), (0, _), (1, _)]) rfl ?_; rintro a w one L ⟨b11, p4, hvp4, hp4, rfl⟩ hf hT
              refine plan_go hT.allR ?_
              refine planT_or ?_ ?_
              · skip
                refine planT_op ?_
                replace hT : Tot _ _ ([_, _] ++ ([_, _, _, _] ++ rs)) := hT.bring 1
                refine ef hf hT rfl rfl (ef_append (E := encI) (L := [_]) rfl rfl Try.underlying82 zb_3 rfl hp1 (hL.app.app) (by simp; omega) (by simp [maxLen]; omega)) rfl (l' := [(49, _), (44, _), (66, _), (65, _), (64, _), (63, _), (62, _), (61, _), (60, _), (59, _), (58, _), (57, _), (56, _), (55, _), (54, _), (53, _), (52, _), (51, _), (48, _), (46, _), (45, _), (43, _), (42, _), (41, _), (9, _), (7, _), (6, _), (5, _), (0, _), (1, _)]) rfl ?_; rintro a w e1 L ⟨X5, hS5, rfl⟩ hf hT
                refine plan_go hT.allR ?_
                refine planT_or ?_ ?_
                · skip
                  refine planT_op ?_
                  refine ef hf hT rfl rfl (ef_append (E := encI) (L := [_]) rfl rfl Try.underlying82 zb_3 rfl hS5 (hp4.els (.tail _ (.head _))) (by simp; omega) (by simp [maxLen]; omega)) rfl (l' := [(47, _), (49, _), (44, _), (66, _), (65, _), (64, _), (63, _), (62, _), (61, _), (60, _), (59, _), (58, _), (57, _), (56, _), (55, _), (54, _), (53, _), (52, _), (51, _), (48, _), (46, _), (45, _), (43, _), (42, _), (41, _), (9, _), (7, _), (6, _), (5, _), (0, _), (1, _)]) rfl ?_; rintro a w e2 L ⟨X6, hS6, rfl⟩ hf hT
                  obtain ⟨A3, c3, rfl, hc3⟩ := hS6.shape
                  refine plan_go hT.allR ?_
                  refine planT_op ?_
                  refine rd hf rfl (yl_build rfl Try.underlying147 zr_147 (places := [(0, 1), (1, 1), (2, 1)]) (by kernel_rfl) (by kernel_rfl) rfl) rfl rfl ?_; intro a hf
                  refine plan_go hT.allR ?_
                  refine planT_or ?_ ?_
                  · skip
                    refine planT_fin ?_
                    refine ef_call hf rfl (wanted_none _ _ rfl) rfl rfl (by kernel_rfl) (Spec.frame (L2 := [_, _]) (ih (xs.length - (i + 1)) (by omega) (i + 1) rfl (by omega) _ _ (Lc ++ [(i : Int)]) (cw + x.wo) (cs + x.sz) _ _ hT hE.app.app (hS6.els (.head _)) (.inr ⟨by omega, Lc, by simp⟩) (by simp; omega) (by omega) (by omega) (by omega) (by omega))) rfl (l' := [(67, _), (50, _), (47, _), (49, _), (44, _), (66, _), (65, _), (64, _), (63, _), (62, _), (61, _), (60, _), (59, _), (58, _), (57, _), (56, _), (55, _), (54, _), (53, _), (52, _), (51, _), (48, _), (46, _), (45, _), (43, _), (42, _), (41, _), (9, _), (7, _), (6, _), (5, _), (0, _), (1, _)]) rfl ?_; rintro a w v L ⟨L1, ⟨qr, z, Yr, rfl, hz, hR2, rfl⟩, rfl⟩ hf hT
                    obtain ⟨Ar, cr, rfl⟩ := hR2.shape (hS6.els (R := [_]) (List.mem_cons_self ..))
                    refine ef hf hT rfl rfl (ef_alloc zr_147) rfl (l' := [(68, _), (67, _), (50, _), (47, _), (49, _), (44, _), (66, _), (65, _), (64, _), (63, _), (62, _), (61, _), (60, _), (59, _), (58, _), (57, _), (56, _), (55, _), (54, _), (53, _), (52, _), (51, _), (48, _), (46, _), (45, _), (43, _), (42, _), (41, _), (9, _), (7, _), (6, _), (5, _), (0, _), (1, _)]) rfl ?_; rintro a w v L ⟨b12, rfl, rfl⟩ hf hT
                    refine efS hf hT rfl rfl (ef_storeW rfl rfl sz_147 rfl rfl rfl) ?_; rintro w L rfl hT
                    refine plan_nil ?_
                    replace hf := hf.sel [10, 9, 7, 6, 5, 0, 1] (l' := [(10, _), (9, _), (7, _), (6, _), (5, _), (0, _), (1, _)]) rfl
                    have hTT : (Lc ++ [(i : Int)]) ++ cidxI (xs.length - (i + 1)) (24 - (i + 1)) (i + 1) z.b = Lc ++ cidxI (xs.length - g0) (24 - g0) g0 ((unit x (23 - i)).add z).b := by
                      unfold cidxI; rw [idx_new hn hx hai hlti x z hz.mem.1]; simp
                    have hz' : Top (fun y => y ∈ all (xs.drop (i + 1)) (24 - (i + 1)) ∧ x.sz + y.s ≤ m - cs) z := ⟨⟨hz.mem.1, by have := hz.mem.2; omega⟩, fun y hy => hz.max y ⟨hy.1, by have := hy.2; omega⟩⟩
                    rcases hR2 with ⟨he, hl⟩ | hY
                    · skip
                      exact ⟨(b12, _, z), _, hf.sel [10, 9, 7, 6, 5, 0, 1] rfl, ⟨hz', _, by rw [hl] at he; rw [← hTT, hl, he]; exact hS6.els (List.mem_cons_self ..), rfl⟩, (hT.brings [3, 2]).tail.tail⟩
                    · skip
                      exact ⟨(b12, _, z), _, hf.sel [10, 9, 7, 6, 5, 0, 1] rfl, ⟨hz', _, by rw [← hTT]; exact hY, rfl⟩, (hT.brings [3, 3]).tail.tail⟩
                  · skip
                    refine planT_fin ?_
                    refine ef hf hT rfl rfl (ef_alloc zr_147) rfl (l' := [(67, _), (50, _), (47, _), (49, _), (44, _), (66, _), (65, _), (64, _), (63, _), (62, _), (61, _), (60, _), (59, _), (58, _), (57, _), (56, _), (55, _), (54, _), (53, _), (52, _), (51, _), (48, _), (46, _), (45, _), (43, _), (42, _), (41, _), (9, _), (7, _), (6, _), (5, _), (0, _), (1, _)]) rfl ?_; rintro a w v L ⟨b13, rfl, rfl⟩ hf hT
                    refine ef_call hf rfl (wanted_none _ _ rfl) rfl rfl (by kernel_rfl) (Spec.frame (L2 := [_, _, _]) (ih (xs.length - (i + 1)) (by omega) (i + 1) rfl (by omega) _ _ (Lc ++ [(i : Int)]) (cw + x.wo) (cs + x.sz) _ _ hT hE.app.app (hS6.els (.tail _ (.head _))) (.inr ⟨by omega, Lc, by simp⟩) (by simp; omega) (by omega) (by omega) (by omega) (by omega))) rfl (l' := [(10, _), (67, _), (50, _), (47, _), (49, _), (44, _), (66, _), (65, _), (64, _), (63, _), (62, _), (61, _), (60, _), (59, _), (58, _), (57, _), (56, _), (55, _), (54, _), (53, _), (52, _), (51, _), (48, _), (46, _), (45, _), (43, _), (42, _), (41, _), (9, _), (7, _), (6, _), (5, _), (0, _), (1, _)]) rfl ?_; rintro a w v L ⟨L1, ⟨qr, z, Yr, rfl, hz, hR2, rfl⟩, rfl⟩ hf hT
                    obtain ⟨Ar, cr, rfl⟩ := hR2.shape (hS6.els (R := [_]) (List.mem_cons_self ..))
                    replace hT : Tot _ _ ([_, _, _, _] ++ ([_, _, _, _] ++ rs)) := hT.bring 1
                    refine efS hf hT rfl rfl (ef_storeW rfl rfl sz_147 rfl rfl rfl) ?_; rintro w L rfl hT
                    refine plan_nil ?_
                    replace hf := hf.sel [10, 9, 7, 6, 5, 0, 1] (l' := [(10, _), (9, _), (7, _), (6, _), (5, _), (0, _), (1, _)]) rfl
                    have hTT : (Lc ++ [(i : Int)]) ++ cidxI (xs.length - (i + 1)) (24 - (i + 1)) (i + 1) z.b = Lc ++ cidxI (xs.length - g0) (24 - g0) g0 ((unit x (23 - i)).add z).b := by
                      unfold cidxI; rw [idx_new hn hx hai hlti x z hz.mem.1]; simp
                    have hz' : Top (fun y => y ∈ all (xs.drop (i + 1)) (24 - (i + 1)) ∧ x.sz + y.s ≤ m - cs) z := ⟨⟨hz.mem.1, by have := hz.mem.2; omega⟩, fun y hy => hz.max y ⟨hy.1, by have := hy.2; omega⟩⟩
                    rcases hR2 with ⟨he, hl⟩ | hY
                    · skip
                      exact ⟨(b13, _, z), _, hf.sel [10, 9, 7, 6, 5, 0, 1] rfl, ⟨hz', _, by rw [hl] at he; rw [← hTT, hl, he]; exact hS6.els (List.mem_cons_self ..), rfl⟩, (hT.brings [3, 2]).tail.tail⟩
                    · skip
                      exact ⟨(b13, _, z), _, hf.sel [10, 9, 7, 6, 5, 0, 1] rfl, ⟨hz', _, by rw [← hTT]; exact hY, rfl⟩, (hT.brings [3, 3]).tail.tail⟩
                · skip
                  refine planT_fin ?_
                  refine ef hf hT rfl rfl (ef_alloc zr_147) rfl (l' := [(47, _), (49, _), (44, _), (66, _), (65, _), (64, _), (63, _), (62, _), (61, _), (60, _), (59, _), (58, _), (57, _), (56, _), (55, _), (54, _), (53, _), (52, _), (51, _), (48, _), (46, _), (45, _), (43, _), (42, _), (41, _), (9, _), (7, _), (6, _), (5, _), (0, _), (1, _)]) rfl ?_; rintro a w v L ⟨b14, rfl, rfl⟩ hf hT
                  replace hT : Tot _ _ ([_, _, _] ++ ([_, _, _, _] ++ rs)) := hT.bring 1
                  refine ef hf hT rfl rfl (ef_append (E := encI) (L := [_, _]) rfl rfl Try.underlying82 zb_3 rfl hS5 (hp4.els (.tail _ (.tail _ (.head _)))) (by simp; omega) (by simp [maxLen]; omega)) rfl (l' := [(10, _), (47, _), (49, _), (44, _), (66, _), (65, _), (64, _), (63, _), (62, _), (61, _), (60, _), (59, _), (58, _), (57, _), (56, _), (55, _), (54, _), (53, _), (52, _), (51, _), (48, _), (46, _), (45, _), (43, _), (42, _), (41, _), (9, _), (7, _), (6, _), (5, _), (0, _), (1, _)]) rfl ?_; rintro a w e2 L ⟨X7, hS7, rfl⟩ hf hT
                  obtain ⟨A3, c3, rfl, hc3⟩ := hS7.shape
                  refine rd hf rfl (yl_build rfl Try.underlying147 zr_147 (places := [(0, 1), (1, 1), (2, 1)]) (by kernel_rfl) (by kernel_rfl) rfl) rfl rfl ?_; intro a hf
                  refine ef_call hf rfl (wanted_none _ _ rfl) rfl rfl (by kernel_rfl) (Spec.frame (L2 := [_, _, _]) (ih (xs.length - (i + 1)) (by omega) (i + 1) rfl (by omega) _ _ (Lc ++ [(i : Int)]) (cw + x.wo) (cs + x.sz) _ _ hT hE.app.app (hS7.els (.head _)) (.inr ⟨by omega, Lc, by simp⟩) (by simp; omega) (by omega) (by omega) (by omega) (by omega))) rfl (l' := [(67, _), (50, _), (10, _), (47, _), (49, _), (44, _), (66, _), (65, _), (64, _), (63, _), (62, _), (61, _), (60, _), (59, _), (58, _), (57, _), (56, _), (55, _), (54, _), (53, _), (52, _), (51, _), (48, _), (46, _), (45, _), (43, _), (42, _), (41, _), (9, _), (7, _), (6, _), (5, _), (0, _), (1, _)]) rfl ?_; rintro a w v L ⟨L1, ⟨qr, z, Yr, rfl, hz, hR2, rfl⟩, rfl⟩ hf hT
                  obtain ⟨Ar, cr, rfl⟩ := hR2.shape (hS7.els (R := [_]) (List.mem_cons_self ..))
                  replace hT : Tot _ _ ([_, _, _, _] ++ ([_, _, _, _] ++ rs)) := hT.bring 2
                  refine efS hf hT rfl rfl (ef_storeW rfl rfl sz_147 rfl rfl rfl) ?_; rintro w L rfl hT
                  refine plan_nil ?_
                  replace hf := hf.sel [10, 9, 7, 6, 5, 0, 1] (l' := [(10, _), (9, _), (7, _), (6, _), (5, _), (0, _), (1, _)]) rfl
                  have hTT : (Lc ++ [(i : Int)]) ++ cidxI (xs.length - (i + 1)) (24 - (i + 1)) (i + 1) z.b = Lc ++ cidxI (xs.length - g0) (24 - g0) g0 ((unit x (23 - i)).add z).b := by
                    unfold cidxI; rw [idx_new hn hx hai hlti x z hz.mem.1]; simp
                  have hz' : Top (fun y => y ∈ all (xs.drop (i + 1)) (24 - (i + 1)) ∧ x.sz + y.s ≤ m - cs) z := ⟨⟨hz.mem.1, by have := hz.mem.2; omega⟩, fun y hy => hz.max y ⟨hy.1, by have := hy.2; omega⟩⟩
                  rcases hR2 with ⟨he, hl⟩ | hY
                  · skip
                    exact ⟨(b14, _, z), _, hf.sel [10, 9, 7, 6, 5, 0, 1] rfl, ⟨hz', _, by rw [hl] at he; rw [← hTT, hl, he]; exact hS7.els (List.mem_cons_self ..), rfl⟩, (hT.brings [3, 2]).tail.tail⟩
                  · skip
                    exact ⟨(b14, _, z), _, hf.sel [10, 9, 7, 6, 5, 0, 1] rfl, ⟨hz', _, by rw [← hTT]; exact hY, rfl⟩, (hT.brings [3, 3]).tail.tail⟩
              · skip
                refine planT_fin ?_
                refine ef hf hT rfl rfl (ef_alloc zr_147) rfl (l' := [(49, _), (44, _), (66, _), (65, _), (64, _), (63, _), (62, _), (61, _), (60, _), (59, _), (58, _), (57, _), (56, _), (55, _), (54, _), (53, _), (52, _), (51, _), (48, _), (46, _), (45, _), (43, _), (42, _), (41, _), (9, _), (7, _), (6, _), (5, _), (0, _), (1, _)]) rfl ?_; rintro a w v L ⟨b15, rfl, rfl⟩ hf hT
                replace hT : Tot _ _ ([_, _, _] ++ ([_, _, _, _] ++ rs)) := hT.bring 2
                refine ef hf hT rfl rfl (ef_append (E := encI) (L := [_, _]) rfl rfl Try.underlying82 zb_3 rfl hp1 (hL.app.app) (by simp; omega) (by simp [maxLen]; omega)) rfl (l' := [(10, _), (49, _), (44, _), (66, _), (65, _), (64, _), (63, _), (62, _), (61, _), (60, _), (59, _), (58, _), (57, _), (56, _), (55, _), (54, _), (53, _), (52, _), (51, _), (48, _), (46, _), (45, _), (43, _), (42, _), (41, _), (9, _), (7, _), (6, _), (5, _), (0, _), (1, _)]) rfl ?_; rintro a w e1 L ⟨X8, hS8, rfl⟩ hf hT
                refine ef hf hT rfl rfl (ef_append (E := encI) (L := [_, _]) rfl rfl Try.underlying82 zb_3 rfl hS8 (hp4.els (.tail _ (.tail _ (.head _)))) (by simp; omega) (by simp [maxLen]; omega)) rfl (l' := [(47, _), (10, _), (49, _), (44, _), (66, _), (65, _), (64, _), (63, _), (62, _), (61, _), (60, _), (59, _), (58, _), (57, _), (56, _), (55, _), (54, _), (53, _), (52, _), (51, _), (48, _), (46, _), (45, _), (43, _), (42, _), (41, _), (9, _), (7, _), (6, _), (5, _), (0, _), (1, _)]) rfl ?_; rintro a w e2 L ⟨X9, hS9, rfl⟩ hf hT
                obtain ⟨A3, c3, rfl, hc3⟩ := hS9.shape
                refine rd hf rfl (yl_build rfl Try.underlying147 zr_147 (places := [(0, 1), (1, 1), (2, 1)]) (by kernel_rfl) (by kernel_rfl) rfl) rfl rfl ?_; intro a hf
                refine ef_call hf rfl (wanted_none _ _ rfl) rfl rfl (by kernel_rfl) (Spec.frame (L2 := [_, _, _]) (ih (xs.length - (i + 1)) (by omega) (i + 1) rfl (by omega) _ _ (Lc ++ [(i : Int)]) (cw + x.wo) (cs + x.sz) _ _ hT hE.app.app (hS9.els (.head _)) (.inr ⟨by omega, Lc, by simp⟩) (by simp; omega) (by omega) (by omega) (by omega) (by omega))) rfl (l' := [(67, _), (50, _), (47, _), (10, _), (49, _), (44, _), (66, _), (65, _), (64, _), (63, _), (62, _), (61, _), (60, _), (59, _), (58, _), (57, _), (56, _), (55, _), (54, _), (53, _), (52, _), (51, _), (48, _), (46, _), (45, _), (43, _), (42, _), (41, _), (9, _), (7, _), (6, _), (5, _), (0, _), (1, _)]) rfl ?_; rintro a w v L ⟨L1, ⟨qr, z, Yr, rfl, hz, hR2, rfl⟩, rfl⟩ hf hT
                obtain ⟨Ar, cr, rfl⟩ := hR2.shape (hS9.els (R := [_]) (List.mem_cons_self ..))
                replace hT : Tot _ _ ([_, _, _, _] ++ ([_, _, _, _] ++ rs)) := hT.bring 2
                refine efS hf hT rfl rfl (ef_storeW rfl rfl sz_147 rfl rfl rfl) ?_; rintro w L rfl hT
                refine plan_nil ?_
                replace hf := hf.sel [10, 9, 7, 6, 5, 0, 1] (l' := [(10, _), (9, _), (7, _), (6, _), (5, _), (0, _), (1, _)]) rfl
                have hTT : (Lc ++ [(i : Int)]) ++ cidxI (xs.length - (i + 1)) (24 - (i + 1)) (i + 1) z.b = Lc ++ cidxI (xs.length - g0) (24 - g0) g0 ((unit x (23 - i)).add z).b := by
                  unfold cidxI; rw [idx_new hn hx hai hlti x z hz.mem.1]; simp
                have hz' : Top (fun y => y ∈ all (xs.drop (i + 1)) (24 - (i + 1)) ∧ x.sz + y.s ≤ m - cs) z := ⟨⟨hz.mem.1, by have := hz.mem.2; omega⟩, fun y hy => hz.max y ⟨hy.1, by have := hy.2; omega⟩⟩
                rcases hR2 with ⟨he, hl⟩ | hY
                · skip
                  exact ⟨(b15, _, z), _, hf.sel [10, 9, 7, 6, 5, 0, 1] rfl, ⟨hz', _, by rw [hl] at he; rw [← hTT, hl, he]; exact hS9.els (List.mem_cons_self ..), rfl⟩, (hT.brings [3, 2]).tail.tail⟩
                · skip
                  exact ⟨(b15, _, z), _, hf.sel [10, 9, 7, 6, 5, 0, 1] rfl, ⟨hz', _, by rw [← hTT]; exact hY, rfl⟩, (hT.brings [3, 3]).tail.tail⟩
            · skip
              refine planT_op ?_
              refine ef hf hT rfl rfl (ef_alloc zr_147) rfl (l' := [(44, _), (66, _), (65, _), (64, _), (63, _), (62, _), (61, _), (60, _), (59, _), (58, _), (57, _), (56, _), (55, _), (54, _), (53, _), (52, _), (51, _), (48, _), (46, _), (45, _), (43, _), (42, _), (41, _), (9, _), (7, _), (6, _), (5, _), (0, _), (1, _)]) rfl ?_; rintro a w v L ⟨b16, rfl, rfl⟩ hf hT
              refine plan_go hT.allR ?_
              refine planT_or ?_ ?_
              · skip
                refine planT_fin ?_
                replace hT : Tot _ _ ([_, _] ++ ([_, _, _, _] ++ rs)) := hT.bring 1
                refine ef hf hT rfl rfl (ef_append (E := encI) (L := [_]) rfl rfl Try.underlying82 zb_3 rfl hp1 (hL.app.app) (by simp; omega) (by simp [maxLen]; omega)) rfl (l' := [(10, _), (44, _), (66, _), (65, _), (64, _), (63, _), (62, _), (61, _), (60, _), (59, _), (58, _), (57, _), (56, _), (55, _), (54, _), (53, _), (52, _), (51, _), (48, _), (46, _), (45, _), (43, _), (42, _), (41, _), (9, _), (7, _), (6, _), (5, _), (0, _), (1, _)]) rfl ?_; rintro a w e1 L ⟨X10, hS10, rfl⟩ hf hT
                refine ef hf hT rfl rfl (ef_buildSlice (E := encI) (xs := [(i : Int)]) rfl rfl Try.underlying82 zs_3 rfl (by decide) rfl (by decide)) rfl (l' := [(47, _), (10, _), (44, _), (66, _), (65, _), (64, _), (63, _), (62, _), (61, _), (60, _), (59, _), (58, _), (57, _), (56, _), (55, _), (54, _), (53, _), (52, _), (51, _), (48, _), (46, _), (45, _), (43, _), (42, _), (41, _), (9, _), (7, _), (6, _), (5, _), (0, _), (1, _)]) rfl ?_; rintro a w one L ⟨b17, p5, hvp5, hp5, rfl⟩ hf hT
                replace hT : Tot _ _ ([_, _, _] ++ ([_, _, _, _] ++ rs)) := hT.bring 1
                refine ef hf hT rfl rfl (ef_append (E := encI) (L := [_, _]) rfl rfl Try.underlying82 zb_3 rfl hS10 (hp5.els (.tail _ (.head _))) (by simp; omega) (by simp [maxLen]; omega)) rfl (l' := [(49, _), (47, _), (10, _), (44, _), (66, _), (65, _), (64, _), (63, _), (62, _), (61, _), (60, _), (59, _), (58, _), (57, _), (56, _), (55, _), (54, _), (53, _), (52, _), (51, _), (48, _), (46, _), (45, _), (43, _), (42, _), (41, _), (9, _), (7, _), (6, _), (5, _), (0, _), (1, _)]) rfl ?_; rintro a w e2 L ⟨X11, hS11, rfl⟩ hf hT
                obtain ⟨A3, c3, rfl, hc3⟩ := hS11.shape
                refine rd hf rfl (yl_build rfl Try.underlying147 zr_147 (places := [(0, 1), (1, 1), (2, 1)]) (by kernel_rfl) (by kernel_rfl) rfl) rfl rfl ?_; intro a hf
                refine ef_call hf rfl (wanted_none _ _ rfl) rfl rfl (by kernel_rfl) (Spec.frame (L2 := [_, _, _]) (ih (xs.length - (i + 1)) (by omega) (i + 1) rfl (by omega) _ _ (Lc ++ [(i : Int)]) (cw + x.wo) (cs + x.sz) _ _ hT hE.app.app (hS11.els (.head _)) (.inr ⟨by omega, Lc, by simp⟩) (by simp; omega) (by omega) (by omega) (by omega) (by omega))) rfl (l' := [(67, _), (50, _), (49, _), (47, _), (10, _), (44, _), (66, _), (65, _), (64, _), (63, _), (62, _), (61, _), (60, _), (59, _), (58, _), (57, _), (56, _), (55, _), (54, _), (53, _), (52, _), (51, _), (48, _), (46, _), (45, _), (43, _), (42, _), (41, _), (9, _), (7, _), (6, _), (5, _), (0, _), (1, _)]) rfl ?_; rintro a w v L ⟨L1, ⟨qr, z, Yr, rfl, hz, hR2, rfl⟩, rfl⟩ hf hT
                obtain ⟨Ar, cr, rfl⟩ := hR2.shape (hS11.els (R := [_]) (List.mem_cons_self ..))
                replace hT : Tot _ _ ([_, _, _, _] ++ ([_, _, _, _] ++ rs)) := hT.bring 3
                refine efS hf hT rfl rfl (ef_storeW rfl rfl sz_147 rfl rfl rfl) ?_; rintro w L rfl hT
                refine plan_nil ?_
                replace hf := hf.sel [10, 9, 7, 6, 5, 0, 1] (l' := [(10, _), (9, _), (7, _), (6, _), (5, _), (0, _), (1, _)]) rfl
                have hTT : (Lc ++ [(i : Int)]) ++ cidxI (xs.length - (i + 1)) (24 - (i + 1)) (i + 1) z.b = Lc ++ cidxI (xs.length - g0) (24 - g0) g0 ((unit x (23 - i)).add z).b := by
                  unfold cidxI; rw [idx_new hn hx hai hlti x z hz.mem.1]; simp
                have hz' : Top (fun y => y ∈ all (xs.drop (i + 1)) (24 - (i + 1)) ∧ x.sz + y.s ≤ m - cs) z := ⟨⟨hz.mem.1, by have := hz.mem.2; omega⟩, fun y hy => hz.max y ⟨hy.1, by have := hy.2; omega⟩⟩
                rcases hR2 with ⟨he, hl⟩ | hY
                · skip
                  exact ⟨(b16, _, z), _, hf.sel [10, 9, 7, 6, 5, 0, 1] rfl, ⟨hz', _, by rw [hl] at he; rw [← hTT, hl, he]; exact hS11.els (List.mem_cons_self ..), rfl⟩, (hT.brings [3, 2]).tail.tail⟩
                · skip
                  exact ⟨(b16, _, z), _, hf.sel [10, 9, 7, 6, 5, 0, 1] rfl, ⟨hz', _, by rw [← hTT]; exact hY, rfl⟩, (hT.brings [3, 3]).tail.tail⟩
              · skip
                refine planT_fin ?_
                refine ef hf hT rfl rfl (ef_buildSlice (E := encI) (xs := [(i : Int)]) rfl rfl Try.underlying82 zs_3 rfl (by decide) rfl (by decide)) rfl (l' := [(10, _), (44, _), (66, _), (65, _), (64, _), (63, _), (62, _), (61, _), (60, _), (59, _), (58, _), (57, _), (56, _), (55, _), (54, _), (53, _), (52, _), (51, _), (48, _), (46, _), (45, _), (43, _), (42, _), (41, _), (9, _), (7, _), (6, _), (5, _), (0, _), (1, _)]) rfl ?_; rintro a w one L ⟨b18, p6, hvp6, hp6, rfl⟩ hf hT
                replace hT : Tot _ _ ([_, _, _] ++ ([_, _, _, _] ++ rs)) := hT.bring 2
                refine ef hf hT rfl rfl (ef_append (E := encI) (L := [_, _]) rfl rfl Try.underlying82 zb_3 rfl hp1 (hL.app.app) (by simp; omega) (by simp [maxLen]; omega)) rfl (l' := [(49, _), (10, _), (44, _), (66, _), (65, _), (64, _), (63, _), (62, _), (61, _), (60, _), (59, _), (58, _), (57, _), (56, _), (55, _), (54, _), (53, _), (52, _), (51, _), (48, _), (46, _), (45, _), (43, _), (42, _), (41, _), (9, _), (7, _), (6, _), (5, _), (0, _), (1, _)]) rfl ?_; rintro a w e1 L ⟨X12, hS12, rfl⟩ hf hT
                refine ef hf hT rfl rfl (ef_append (E := encI) (L := [_, _]) rfl rfl Try.underlying82 zb_3 rfl hS12 (hp6.els (.tail _ (.head _))) (by simp; omega) (by simp [maxLen]; omega)) rfl (l' := [(47, _), (49, _), (10, _), (44, _), (66, _), (65, _), (64, _), (63, _), (62, _), (61, _), (60, _), (59, _), (58, _), (57, _), (56, _), (55, _), (54, _), (53, _), (52, _), (51, _), (48, _), (46, _), (45, _), (43, _), (42, _), (41, _), (9, _), (7, _), (6, _), (5, _), (0, _), (1, _)]) rfl ?_; rintro a w e2 L ⟨X13, hS13, rfl⟩ hf hT
                obtain ⟨A3, c3, rfl, hc3⟩ := hS13.shape
                refine rd hf rfl (yl_build rfl Try.underlying147 zr_147 (places := [(0, 1), (1, 1), (2, 1)]) (by kernel_rfl) (by kernel_rfl) rfl) rfl rfl ?_; intro a hf
                refine ef_call hf rfl (wanted_none _ _ rfl) rfl rfl (by kernel_rfl) (Spec.frame (L2 := [_, _, _]) (ih (xs.length - (i + 1)) (by omega) (i + 1) rfl (by omega) _ _ (Lc ++ [(i : Int)]) (cw + x.wo) (cs + x.sz) _ _ hT hE.app.app (hS13.els (.head _)) (.inr ⟨by omega, Lc, by simp⟩) (by simp; omega) (by omega) (by omega) (by omega) (by omega))) rfl (l' := [(67, _), (50, _), (47, _), (49, _), (10, _), (44, _), (66, _), (65, _), (64, _), (63, _), (62, _), (61, _), (60, _), (59, _), (58, _), (57, _), (56, _), (55, _), (54, _), (53, _), (52, _), (51, _), (48, _), (46, _), (45, _), (43, _), (42, _), (41, _), (9, _), (7, _), (6, _), (5, _), (0, _), (1, _)]) rfl ?_; rintro a w v L ⟨L1, ⟨qr, z, Yr, rfl, hz, hR2, rfl⟩, rfl⟩ hf hT
                obtain ⟨Ar, cr, rfl⟩ := hR2.shape (hS13.els (R := [_]) (List.mem_cons_self ..))
                replace hT : Tot _ _ ([_, _, _, _] ++ ([_, _, _, _] ++ rs)) := hT.bring 3
                refine efS hf hT rfl rfl (ef_storeW rfl rfl sz_147 rfl rfl rfl) ?_; rintro w L rfl hT
                refine plan_nil ?_
                replace hf := hf.sel [10, 9, 7, 6, 5, 0, 1] (l' := [(10, _), (9, _), (7, _), (6, _), (5, _), (0, _), (1, _)]) rfl
                have hTT : (Lc ++ [(i : Int)]) ++ cidxI (xs.length - (i + 1)) (24 - (i + 1)) (i + 1) z.b = Lc ++ cidxI (xs.length - g0) (24 - g0) g0 ((unit x (23 - i)).add z).b := by
                  unfold cidxI; rw [idx_new hn hx hai hlti x z hz.mem.1]; simp
                have hz' : Top (fun y => y ∈ all (xs.drop (i + 1)) (24 - (i + 1)) ∧ x.sz + y.s ≤ m - cs) z := ⟨⟨hz.mem.1, by have := hz.mem.2; omega⟩, fun y hy => hz.max y ⟨hy.1, by have := hy.2; omega⟩⟩
                rcases hR2 with ⟨he, hl⟩ | hY
                · skip
                  exact ⟨(b16, _, z), _, hf.sel [10, 9, 7, 6, 5, 0, 1] rfl, ⟨hz', _, by rw [hl] at he; rw [← hTT, hl, he]; exact hS13.els (List.mem_cons_self ..), rfl⟩, (hT.brings [3, 2]).tail.tail⟩
                · skip
                  exact ⟨(b16, _, z), _, hf.sel [10, 9, 7, 6, 5, 0, 1] rfl, ⟨hz', _, by rw [← hTT]; exact hY, rfl⟩, (hT.brings [3, 3]).tail.tail⟩
          · skip
            refine planT_op ?_
            refine ef hf hT rfl rfl (ef_buildSlice (E := encI) (xs := [(i : Int)]) rfl rfl Try.underlying82 zs_3 rfl (by decide) rfl (by decide)) rfl (l' := [(66, _), (65, _), (64, _), (63, _), (62, _), (61, _), (60, _), (59, _), (58, _), (57, _), (56, _), (55, _), (54, _), (53, _), (52, _), (51, _), (48, _), (46, _), (45, _), (43, _), (42, _), (41, _), (9, _), (7, _), (6, _), (5, _), (0, _), (1, _)]) rfl ?_; rintro a w one L ⟨b19, p7, hvp7, hp7, rfl⟩ hf hT
            refine plan_go hT.allR ?_
            refine planT_or ?_ ?_
            · skip
              refine planT_op ?_
              refine ef hf hT rfl rfl (ef_buildSlice0 (E := encI) Try.underlying82 zs_3) rfl (l' := [(49, _), (66, _), (65, _), (64, _), (63, _), (62, _), (61, _), (60, _), (59, _), (58, _), (57, _), (56, _), (55, _), (54, _), (53, _), (52, _), (51, _), (48, _), (46, _), (45, _), (43, _), (42, _), (41, _), (9, _), (7, _), (6, _), (5, _), (0, _), (1, _)]) rfl ?_; rintro a w e0 L ⟨b20, p8, hvp8, hp8, rfl⟩ hf hT
              refine plan_go hT.allR ?_
              refine planT_or ?_ ?_
              · skip
                refine planT_op ?_
                refine ef hf hT rfl rfl (ef_append (E := encI) (L := [_]) rfl rfl Try.underlying82 zb_3 rfl hp8 (hL.app.app) (by simp; omega) (by simp [maxLen]; omega)) rfl (l' := [(44, _), (49, _), (66, _), (65, _), (64, _), (63, _), (62, _), (61, _), (60, _), (59, _), (58, _), (57, _), (56, _), (55, _), (54, _), (53, _), (52, _), (51, _), (48, _), (46, _), (45, _), (43, _), (42, _), (41, _), (9, _), (7, _), (6, _), (5, _), (0, _), (1, _)]) rfl ?_; rintro a w e1 L ⟨X14, hS14, rfl⟩ hf hT
                refine plan_go hT.allR ?_
                refine planT_or ?_ ?_
                · skip
                  refine planT_op ?_
                  refine ef hf hT rfl rfl (ef_append (E := encI) (L := [_]) rfl rfl Try.underlying82 zb_3 rfl hS14 (hp7.els (.tail _ (.head _))) (by simp; omega) (by simp [maxLen]; omega)) rfl (l' := [(47, _), (44, _), (49, _), (66, _), (65, _), (64, _), (63, _), (62, _), (61, _), (60, _), (59, _), (58, _), (57, _), (56, _), (55, _), (54, _), (53, _), (52, _), (51, _), (48, _), (46, _), (45, _), (43, _), (42, _), (41, _), (9, _), (7, _), (6, _), (5, _), (0, _), (1, _)]) rfl ?_; rintro a w e2 L ⟨X15, hS15, rfl⟩ hf hT
                  obtain ⟨A3, c3, rfl, hc3⟩ := hS15.shape
                  refine plan_go hT.allR ?_
                  refine planT_op ?_
                  refine rd hf rfl (yl_build rfl Try.underlying147 zr_147 (places := [(0, 1), (1, 1), (2, 1)]) (by kernel_rfl) (by kernel_rfl) rfl) rfl rfl ?_; intro a hf
                  refine plan_go hT.allR ?_
                  refine planT_or ?_ ?_
                  · skip
                    refine planT_fin ?_
                    refine ef_call hf rfl (wanted_none _ _ rfl) rfl rfl (by kernel_rfl) (Spec.frame (L2 := [_, _]) (ih (xs.length - (i + 1)) (by omega) (i + 1) rfl (by omega) _ _ (Lc ++ [(i : Int)]) (cw + x.wo) (cs + x.sz) _ _ hT hE.app.app (hS15.els (.head _)) (.inr ⟨by omega, Lc, by simp⟩) (by simp; omega) (by omega) (by omega) (by omega) (by omega))) rfl (l' := [(67, _), (50, _), (47, _), (44, _), (49, _), (66, _), (65, _), (64, _), (63, _), (62, _), (61, _), (60, _), (59, _), (58, _), (57, _), (56, _), (55, _), (54, _), (53, _), (52, _), (51, _), (48, _), (46, _), (45, _), (43, _), (42, _), (41, _), (9, _), (7, _), (6, _), (5, _), (0, _), (1, _)]) rfl ?_; rintro a w v L ⟨L1, ⟨qr, z, Yr, rfl, hz, hR2, rfl⟩, rfl⟩ hf hT
                    obtain ⟨Ar, cr, rfl⟩ := hR2.shape (hS15.els (R := [_]) (List.mem_cons_self ..))
                    refine ef hf hT rfl rfl (ef_alloc zr_147) rfl (l' := [(68, _), (67, _), (50, _), (47, _), (44, _), (49, _), (66, _), (65, _), (64, _), (63, _), (62, _), (61, _), (60, _), (59, _), (58, _), (57, _), (56, _), (55, _), (54, _), (53, _), (52, _), (51, _), (48, _), (46, _), (45, _), (43, _), (42, _), (41, _), (9, _), (7, _), (6, _), (5, _), (0, _), (1, _)]) rfl ?_; rintro a w v L ⟨b21, rfl, rfl⟩ hf hT
                    refine efS hf hT rfl rfl (ef_storeW rfl rfl sz_147 rfl rfl rfl) ?_; rintro w L rfl hT
                    refine plan_nil ?_
                    replace hf := hf.sel [10, 9, 7, 6, 5, 0, 1] (l' := [(10, _), (9, _), (7, _), (6, _), (5, _), (0, _), (1, _)]) rfl
                    have hTT : (Lc ++ [(i : Int)]) ++ cidxI (xs.length - (i + 1)) (24 - (i + 1)) (i + 1) z.b = Lc ++ cidxI (xs.length - g0) (24 - g0) g0 ((unit x (23 - i)).add z).b := by
                      unfold cidxI; rw [idx_new hn hx hai hlti x z hz.mem.1]; simp
                    have hz' : Top (fun y => y ∈ all (xs.drop (i + 1)) (24 - (i + 1)) ∧ x.sz + y.s ≤ m - cs) z := ⟨⟨hz.mem.1, by have := hz.mem.2; omega⟩, fun y hy => hz.max y ⟨hy.1, by have := hy.2; omega⟩⟩
                    rcases hR2 with ⟨he, hl⟩ | hY
                    · skip
                      exact ⟨(b21, _, z), _, hf.sel [10, 9, 7, 6, 5, 0, 1] rfl, ⟨hz', _, by rw [hl] at he; rw [← hTT, hl, he]; exact hS15.els (List.mem_cons_self ..), rfl⟩, (hT.brings [3, 2]).tail.tail⟩
                    · skip
                      exact ⟨(b21, _, z), _, hf.sel [10, 9, 7, 6, 5, 0, 1] rfl, ⟨hz', _, by rw [← hTT]; exact hY, rfl⟩, (hT.brings [3, 3]).tail.tail⟩
                  · skip
                    refine planT_fin ?_
                    refine ef hf hT rfl rfl (ef_alloc zr_147) rfl (l' := [(67, _), (50, _), (47, _), (44, _), (49, _), (66, _), (65, _), (64, _), (63, _), (62, _), (61, _), (60, _), (59, _), (58, _), (57, _), (56, _), (55, _), (54, _), (53, _), (52, _), (51, _), (48, _), (46, _), (45, _), (43, _), (42, _), (41, _), (9, _), (7, _), (6, _), (5, _), (0, _), (1, _)]) rfl ?_; rintro a w v L ⟨b22, rfl, rfl⟩ hf hT
                    refine ef_call hf rfl (wanted_none _ _ rfl) rfl rfl (by kernel_rfl) (Spec.frame (L2 := [_, _, _]) (ih (xs.length - (i + 1)) (by omega) (i + 1) rfl (by omega) _ _ (Lc ++ [(i : Int)]) (cw + x.wo) (cs + x.sz) _ _ hT hE.app.app (hS15.els (.tail _ (.head _))) (.inr ⟨by omega, Lc, by simp⟩) (by simp; omega) (by omega) (by omega) (by omega) (by omega))) rfl (l' := [(10, _), (67, _), (50, _), (47, _), (44, _), (49, _), (66, _), (65, _), (64, _), (63, _), (62, _), (61, _), (60, _), (59, _), (58, _), (57, _), (56, _), (55, _), (54, _), (53, _), (52, _), (51, _), (48, _), (46, _), (45, _), (43, _), (42, _), (41, _), (9, _), (7, _), (6, _), (5, _), (0, _), (1, _)]) rfl ?_; rintro a w v L ⟨L1, ⟨qr, z, Yr, rfl, hz, hR2, rfl⟩, rfl⟩ hf hT
                    obtain ⟨Ar, cr, rfl⟩ := hR2.shape (hS15.els (R := [_]) (List.mem_cons_self ..))
                    replace hT : Tot _ _ ([_, _, _, _] ++ ([_, _, _, _] ++ rs)) := hT.bring 1
                    refine efS hf hT rfl rfl (ef_storeW rfl rfl sz_147 rfl rfl rfl) ?_; rintro w L rfl hT
                    refine plan_nil ?_
                    replace hf := hf.sel [10, 9, 7, 6, 5, 0, 1] (l' := [(10, _), (9, _), (7, _), (6, _), (5, _), (0, _), (1, _)]) rfl
                    have hTT : (Lc ++ [(i : Int)]) ++ cidxI (xs.length - (i + 1)) (24 - (i + 1)) (i + 1) z.b = Lc ++ cidxI (xs.length - g0) (24 - g0) g0 ((unit x (23 - i)).add z).b := by
                      unfold cidxI; rw [idx_new hn hx hai hlti x z hz.mem.1]; simp
                    have hz' : Top (fun y => y ∈ all (xs.drop (i + 1)) (24 - (i + 1)) ∧ x.sz + y.s ≤ m - cs) z := ⟨⟨hz.mem.1, by have := hz.mem.2; omega⟩, fun y hy => hz.max y ⟨hy.1, by have := hy.2; omega⟩⟩
                    rcases hR2 with ⟨he, hl⟩ | hY
                    · skip
                      exact ⟨(b22, _, z), _, hf.sel [10, 9, 7, 6, 5, 0, 1] rfl, ⟨hz', _, by rw [hl] at he; rw [← hTT, hl, he]; exact hS15.els (List.mem_cons_self ..), rfl⟩, (hT.brings [3, 2]).tail.tail⟩
                    · skip
                      exact ⟨(b22, _, z), _, hf.sel [10, 9, 7, 6, 5, 0, 1] rfl, ⟨hz', _, by rw [← hTT]; exact hY, rfl⟩, (hT.brings [3, 3]).tail.tail⟩
                · skip
                  refine planT_fin ?_
                  refine ef hf hT rfl rfl (ef_alloc zr_147) rfl (l' := [(47, _), (44, _), (49, _), (66, _), (65, _), (64, _), (63, _), (62, _), (61, _), (60, _), (59, _), (58, _), (57, _), (56, _), (55, _), (54, _), (53, _), (52, _), (51, _), (48, _), (46, _), (45, _), (43, _), (42, _), (41, _), (9, _), (7, _), (6, _), (5, _), (0, _), (1, _)]) rfl ?_; rintro a w v L ⟨b23, rfl, rfl⟩ hf hT
                  replace hT : Tot _ _ ([_, _, _] ++ ([_, _, _, _] ++ rs)) := hT.bring 1
                  refine ef hf hT rfl rfl (ef_append (E := encI) (L := [_, _]) rfl rfl Try.underlying82 zb_3 rfl hS14 (hp7.els (.tail _ (.tail _ (.head _)))) (by simp; omega) (by simp [maxLen]; omega)) rfl (l' := [(10, _), (47, _), (44, _), (49, _), (66, _), (65, _), (64, _), (63, _), (62, _), (61, _), (60, _), (59, _), (58, _), (57, _), (56, _), (55, _), (54, _), (53, _), (52, _), (51, _), (48, _), (46, _), (45, _), (43, _), (42, _), (41, _), (9, _), (7, _), (6, _), (5, _), (0, _), (1, _)]) rfl ?_; rintro a w e2 L ⟨X16, hS16, rfl⟩ hf hT
                  obtain ⟨A3, c3, rfl, hc3⟩ := hS16.shape
                  refine rd hf rfl (yl_build rfl Try.underlying147 zr_147 (places := [(0, 1), (1, 1), (2, 1)]) (by kernel_rfl) (by kernel_rfl) rfl) rfl rfl ?_; intro a hf
                  refine ef_call hf rfl (wanted_none _ _ rfl) rfl rfl (by kernel_rfl) (Spec.frame (L2 := [_, _, _]) (ih (xs.length - (i + 1)) (by omega) (i + 1) rfl (by omega) _ _ (Lc ++ [(i : Int)]) (cw + x.wo) (cs + x.sz) _ _ hT hE.app.app (hS16.els (.head _)) (.inr ⟨by omega, Lc, by simp⟩) (by simp; omega) (by omega) (by omega) (by omega) (by omega))) rfl (l' := [(67, _), (50, _), (10, _), (47, _), (44, _), (49, _), (66, _), (65, _), (64, _), (63, _), (62, _), (61, _), (60, _), (59, _), (58, _), (57, _), (56, _), (55, _), (54, _), (53, _), (52, _), (51, _), (48, _), (46, _), (45, _), (43, _), (42, _), (41, _), (9, _), (7, _), (6, _), (5, _), (0, _), (1, _)]) rfl ?_; rintro a w v L ⟨L1, ⟨qr, z, Yr, rfl, hz, hR2, rfl⟩, rfl⟩ hf hT
                  obtain ⟨Ar, cr, rfl⟩ := hR2.shape (hS16.els (R := [_]) (List.mem_cons_self ..))
                  replace hT : Tot _ _ ([_, _, _, _] ++ ([_, _, _, _] ++ rs)) := hT.bring 2
                  refine efS hf hT rfl rfl (ef_storeW rfl rfl sz_147 rfl rfl rfl) ?_; rintro w L rfl hT
                  refine plan_nil ?_
                  replace hf := hf.sel [10, 9, 7, 6, 5, 0, 1] (l' := [(10, _), (9, _), (7, _), (6, _), (5, _), (0, _), (1, _)]) rfl
                  have hTT : (Lc ++ [(i : Int)]) ++ cidxI (xs.length - (i + 1)) (24 - (i + 1)) (i + 1) z.b = Lc ++ cidxI (xs.length - g0) (24 - g0) g0 ((unit x (23 - i)).add z).b := by
                    unfold cidxI; rw [idx_new hn hx hai hlti x z hz.mem.1]; simp
                  have hz' : Top (fun y => y ∈ all (xs.drop (i + 1)) (24 - (i + 1)) ∧ x.sz + y.s ≤ m - cs) z := ⟨⟨hz.mem.1, by have := hz.mem.2; omega⟩, fun y hy => hz.max y ⟨hy.1, by have := hy.2; omega⟩⟩
                  rcases hR2 with ⟨he, hl⟩ | hY
                  · skip
                    exact ⟨(b23, _, z), _, hf.sel [10, 9, 7, 6, 5, 0, 1] rfl, ⟨hz', _, by rw [hl] at he; rw [← hTT, hl, he]; exact hS16.els (List.mem_cons_self ..), rfl⟩, (hT.brings [3, 2]).tail.tail⟩
                  · skip
                    exact ⟨(b23, _, z), _, hf.sel [10, 9, 7, 6, 5, 0, 1] rfl, ⟨hz', _, by rw [← hTT]; exact hY, rfl⟩, (hT.brings [3, 3]).tail.tail⟩
              · skip
                refine planT_fin ?_
                refine ef hf hT rfl rfl (ef_alloc zr_147) rfl (l' := [(44, _), (49, _), (66, _), (65, _), (64, _), (63, _), (62, _), (61, _), (60, _), (59, _), (58, _), (57, _), (56, _), (55, _), (54, _), (53, _), (52, _), (51, _), (48, _), (46, _), (45, _), (43, _), (42, _), (41, _), (9, _), (7, _), (6, _), (5, _), (0, _), (1, _)]) rfl ?_; rintro a w v L ⟨b24, rfl, rfl⟩ hf hT
                replace hT : Tot _ _ ([_, _, _] ++ ([_, _, _, _] ++ rs)) := hT.bring 1
                refine ef hf hT rfl rfl (ef_append (E := encI) (L := [_, _]) rfl rfl Try.underlying82 zb_3 rfl hp8 (hL.app.app) (by simp; omega) (by simp [maxLen]; omega)) rfl (l' := [(10, _), (44, _), (49, _), (66, _), (65, _), (64, _), (63, _), (62, _), (61, _), (60, _), (59, _), (58, _), (57, _), (56, _), (55, _), (54, _), (53, _), (52, _), (51, _), (48, _), (46, _), (45, _), (43, _), (42, _), (41, _), (9, _), (7, _), (6, _), (5, _), (0, _), (1, _)]) rfl ?_; rintro a w e1 L ⟨X17, hS17, rfl⟩ hf hT
                refine ef hf hT rfl rfl (ef_append (E := encI) (L := [_, _]) rfl rfl Try.underlying82 zb_3 rfl hS17 (hp7.els (.tail _ (.tail _ (.head _)))) (by simp; omega) (by simp [maxLen]; omega)) rfl (l' := [(47, _), (10, _), (44, _), (49, _), (66, _), (65, _), (64, _), (63, _), (62, _), (61, _), (60, _), (59, _), (58, _), (57, _), (56, _), (55, _), (54, _), (53, _), (52, _), (51, _), (48, _), (46, _), (45, _), (43, _), (42, _), (41, _), (9, _), (7, _), (6, _), (5, _), (0, _), (1, _)]) rfl ?_; rintro a w e2 L ⟨X18, hS18, rfl⟩ hf hT
                obtain ⟨A3, c3, rfl, hc3⟩ := hS18.shape
                refine rd hf rfl (yl_build rfl Try.underlying147 zr_147 (places := [(0, 1), (1, 1), (2, 1)]) (by kernel_rfl) (by kernel_rfl) rfl) rfl rfl ?_; intro a hf
                refine ef_call hf rfl (wanted_none _ _ rfl) rfl rfl (by kernel_rfl) (Spec.frame (L2 := [_, _, _]) (ih (xs.length - (i + 1)) (by omega) (i + 1) rfl (by omega) _ _ (Lc ++ [(i : Int)]) (cw + x.wo) (cs + x.sz) _ _ hT hE.app.app (hS18.els (.head _)) (.inr ⟨by omega, Lc, by simp⟩) (by simp; omega) (by omega) (by omega) (by omega) (by omega))) rfl (l' := [(67, _), (50, _), (47, _), (10, _), (44, _), (49, _), (66, _), (65, _), (64, _), (63, _), (62, _), (61, _), (60, _), (59, _), (58, _), (57, _), (56, _), (55, _), (54, _), (53, _), (52, _), (51, _), (48, _), (46, _), (45, _), (43, _), (42, _), (41, _), (9, _), (7, _), (6, _), (5, _), (0, _), (1, _)]) rfl ?_; rintro a w v L ⟨L1, ⟨qr, z, Yr, rfl, hz, hR2, rfl⟩, rfl⟩ hf hT
                obtain ⟨Ar, cr, rfl⟩ := hR2.shape (hS18.els (R := [_]) (List.mem_cons_self ..))
                replace hT : Tot _ _ ([_, _, _, _] ++ ([_, _, _, _] ++ rs)) := hT.bring 2
                refine efS hf hT rfl rfl (ef_storeW rfl rfl sz_147 rfl rfl rfl) ?_; rintro w L rfl hT
                refine plan_nil ?_
                replace hf := hf.sel [10, 9, 7, 6, 5, 0, 1] (l' := [(10, _), (9, _), (7, _), (6, _), (5, _), (0, _), (1, _)]) rfl
                have hTT : (Lc ++ [(i : Int)]) ++ cidxI (xs.length - (i + 1)) (24 - (i + 1)) (i + 1) z.b = Lc ++ cidxI (xs.length - g0) (24 - g0) g0 ((unit x (23 - i)).add z).b := by
                  unfold cidxI; rw [idx_new hn hx hai hlti x z hz.mem.1]; simp
                have hz' : Top (fun y => y ∈ all (xs.drop (i + 1)) (24 - (i + 1)) ∧ x.sz + y.s ≤ m - cs) z := ⟨⟨hz.mem.1, by have := hz.mem.2; omega⟩, fun y hy => hz.max y ⟨hy.1, by have := hy.2; omega⟩⟩
                rcases hR2 with ⟨he, hl⟩ | hY
                · skip
                  exact ⟨(b24, _, z), _, hf.sel [10, 9, 7, 6, 5, 0, 1] rfl, ⟨hz', _, by rw [hl] at he; rw [← hTT, hl, he]; exact hS18.els (List.mem_cons_self ..), rfl⟩, (hT.brings [3, 2]).tail.tail⟩
                · skip
                  exact ⟨(b24, _, z), _, hf.sel [10, 9, 7, 6, 5, 0, 1] rfl, ⟨hz', _, by rw [← hTT]; exact hY, rfl⟩, (hT.brings [3, 3]).tail.tail⟩
            · skip
              refine planT_fin ?_
              refine ef hf hT rfl rfl (ef_alloc zr_147) rfl (l' := [(49, _), (66, _), (65, _), (64, _), (63, _), (62, _), (61, _), (60, _), (59, _), (58, _), (57, _), (56, _), (55, _), (54, _), (53, _), (52, _), (51, _), (48, _), (46, _), (45, _), (43, _), (42, _), (41, _), (9, _), (7, _), (6, _), (5, _), (0, _), (1, _)]) rfl ?_; rintro a w v L ⟨b25, rfl, rfl⟩ hf hT
              refine ef hf hT rfl rfl (ef_buildSlice0 (E := encI) Try.underlying82 zs_3) rfl (l' := [(10, _), (49, _), (66, _), (65, _), (64, _), (63, _), (62, _), (61, _), (60, _), (59, _), (58, _), (57, _), (56, _), (55, _), (54, _), (53, _), (52, _), (51, _), (48, _), (46, _), (45, _), (43, _), (42, _), (41, _), (9, _), (7, _), (6, _), (5, _), (0, _), (1, _)]) rfl ?_; rintro a w e0 L ⟨b26, p9, hvp9, hp9, rfl⟩ hf hT
              refine ef hf hT rfl rfl (ef_append (E := encI) (L := [_, _]) rfl rfl Try.underlying82 zb_3 rfl hp9 (hL.app.app) (by simp; omega) (by simp [maxLen]; omega)) rfl (l' := [(44, _), (10, _), (49, _), (66, _), (65, _), (64, _), (63, _), (62, _), (61, _), (60, _), (59, _), (58, _), (57, _), (56, _), (55, _), (54, _), (53, _), (52, _), (51, _), (48, _), (46, _), (45, _), (43, _), (42, _), (41, _), (9, _), (7, _), (6, _), (5, _), (0, _), (1, _)]) rfl ?_; rintro a w e1 L ⟨X19, hS19, rfl⟩ hf hT
              refine ef hf hT rfl rfl (ef_append (E := encI) (L := [_, _]) rfl rfl Try.underlying82 zb_3 rfl hS19 (hp7.els (.tail _ (.tail _ (.head _)))) (by simp; omega) (by simp [maxLen]; omega)) rfl (l' := [(47, _), (44, _), (10, _), (49, _), (66, _), (65, _), (64, _), (63, _), (62, _), (61, _), (60, _), (59, _), (58, _), (57, _), (56, _), (55, _), (54, _), (53, _), (52, _), (51, _), (48, _), (46, _), (45, _), (43, _), (42, _), (41, _), (9, _), (7, _), (6, _), (5, _), (0, _), (1, _)]) rfl ?_; rintro a w e2 L ⟨X20, hS20, rfl⟩ hf hT
              obtain ⟨A3, c3, rfl, hc3⟩ := hS20.shape
              refine rd hf rfl (yl_build rfl Try.underlying147 zr_147 (places := [(0, 1), (1, 1), (2, 1)]) (by kernel_rfl) (by kernel_rfl) rfl) rfl rfl ?_; intro a hf
              refine ef_call hf rfl (wanted_none _ _ rfl) rfl rfl (by kernel_rfl) (Spec.frame (L2 := [_, _, _]) (ih (xs.length - (i + 1)) (by omega) (i + 1) rfl (by omega) _ _ (Lc ++ [(i : Int)]) (cw + x.wo) (cs + x.sz) _ _ hT hE.app.app (hS20.els (.head _)) (.inr ⟨by omega, Lc, by simp⟩) (by simp; omega) (by omega) (by omega) (by omega) (by omega))) rfl (l' := [(67, _), (50, _), (47, _), (44, _), (10, _), (49, _), (66, _), (65, _), (64, _), (63, _), (62, _), (61, _), (60, _), (59, _), (58, _), (57, _), (56, _), (55, _), (54, _), (53, _), (52, _), (51, _), (48, _), (46, _), (45, _), (43, _), (42, _), (41, _), (9, _), (7, _), (6, _), (5, _), (0, _), (1, _)]) rfl ?_; rintro a w v L ⟨L1, ⟨qr, z, Yr, rfl, hz, hR2, rfl⟩, rfl⟩ hf hT
              obtain ⟨Ar, cr, rfl⟩ := hR2.shape (hS20.els (R := [_]) (List.mem_cons_self ..))
              replace hT : Tot _ _ ([_, _, _, _] ++ ([_, _, _, _] ++ rs)) := hT.bring 2
              refine efS hf hT rfl rfl (ef_storeW rfl rfl sz_147 rfl rfl rfl) ?_; rintro w L rfl hT
              refine plan_nil ?_
              replace hf := hf.sel [10, 9, 7, 6, 5, 0, 1] (l' := [(10, _), (9, _), (7, _), (6, _), (5, _), (0, _), (1, _)]) rfl
              have hTT : (Lc ++ [(i : Int)]) ++ cidxI (xs.length - (i + 1)) (24 - (i + 1)) (i + 1) z.b = Lc ++ cidxI (xs.length - g0) (24 - g0) g0 ((unit x (23 - i)).add z).b := by
                unfold cidxI; rw [idx_new hn hx hai hlti x z hz.mem.1]; simp
              have hz' : Top (fun y => y ∈ all (xs.drop (i + 1)) (24 - (i + 1)) ∧ x.sz + y.s ≤ m - cs) z := ⟨⟨hz.mem.1, by have := hz.mem.2; omega⟩, fun y hy => hz.max y ⟨hy.1, by have := hy.2; omega⟩⟩
              rcases hR2 with ⟨he, hl⟩ | hY
              · skip
                exact ⟨(b25, _, z), _, hf.sel [10, 9, 7, 6, 5, 0, 1] rfl, ⟨hz', _, by rw [hl] at he; rw [← hTT, hl, he]; exact hS20.els (List.mem_cons_self ..), rfl⟩, (hT.brings [3, 2]).tail.tail⟩
              · skip
                exact ⟨(b25, _, z), _, hf.sel [10, 9, 7, 6, 5, 0, 1] rfl, ⟨hz', _, by rw [← hTT]; exact hY, rfl⟩, (hT.brings [3, 3]).tail.tail⟩
          · skip
            refine planT_op ?_
            refine ef hf hT rfl rfl (ef_alloc zr_147) rfl (l' := [(66, _), (65, _), (64, _), (63, _), (62, _), (61, _), (60, _), (59, _), (58, _), (57, _), (56, _), (55, _), (54, _), (53, _), (52, _), (51, _), (48, _), (46, _), (45, _), (43, _), (42, _), (41, _), (9, _), (7, _), (6, _), (5, _), (0, _), (1, _)]) rfl ?_; rintro a w v L ⟨b27, rfl, rfl⟩ hf hT
            refine plan_go hT.allR ?_
            refine planT_or ?_ ?_
            · skip
              refine planT_op ?_
              refine ef hf hT rfl rfl (ef_buildSlice0 (E := encI) Try.underlying82 zs_3) rfl (l' := [(10, _), (66, _), (65, _), (64, _), (63, _), (62, _), (61, _), (60, _), (59, _), (58, _), (57, _), (56, _), (55, _), (54, _), (53, _), (52, _), (51, _), (48, _), (46, _), (45, _), (43, _), (42, _), (41, _), (9, _), (7, _), (6, _), (5, _), (0, _), (1, _)]) rfl ?_; rintro a w e0 L ⟨b28, p10, hvp10, hp10, rfl⟩ hf hT
              refine plan_go hT.allR ?_
              refine planT_or ?_ ?_
              · skip
                refine planT_fin ?_
                refine ef hf hT rfl rfl (ef_append (E := encI) (L := [_]) rfl rfl Try.underlying82 zb_3 rfl hp10 (hL.app.app) (by simp; omega) (by simp [maxLen]; omega)) rfl (l' := [(44, _), (10, _), (66, _), (65, _), (64, _), (63, _), (62, _), (61, _), (60, _), (59, _), (58, _), (57, _), (56, _), (55, _), (54, _), (53, _), (52, _), (51, _), (48, _), (46, _), (45, _), (43, _), (42, _), (41, _), (9, _), (7, _), (6, _), (5, _), (0, _), (1, _)]) rfl ?_; rintro a w e1 L ⟨X21, hS21, rfl⟩ hf hT
                refine ef hf hT rfl rfl (ef_buildSlice (E := encI) (xs := [(i : Int)]) rfl rfl Try.underlying82 zs_3 rfl (by decide) rfl (by decide)) rfl (l' := [(47, _), (44, _), (10, _), (66, _), (65, _), (64, _), (63, _), (62, _), (61, _), (60, _), (59, _), (58, _), (57, _), (56, _), (55, _), (54, _), (53, _), (52, _), (51, _), (48, _), (46, _), (45, _), (43, _), (42, _), (41, _), (9, _), (7, _), (6, _), (5, _), (0, _), (1, _)]) rfl ?_; rintro a w one L ⟨b29, p11, hvp11, hp11, rfl⟩ hf hT
                replace hT : Tot _ _ ([_, _, _] ++ ([_, _, _, _] ++ rs)) := hT.bring 1
                refine ef hf hT rfl rfl (ef_append (E := encI) (L := [_, _]) rfl rfl Try.underlying82 zb_3 rfl hS21 (hp11.els (.tail _ (.head _))) (by simp; omega) (by simp [maxLen]; omega)) rfl (l' := [(49, _), (47, _), (44, _), (10, _), (66, _), (65, _), (64, _), (63, _), (62, _), (61, _), (60, _), (59, _), (58, _), (57, _), (56, _), (55, _), (54, _), (53, _), (52, _), (51, _), (48, _), (46, _), (45, _), (43, _), (42, _), (41, _), (9, _), (7, _), (6, _), (5, _), (0, _), (1, _)]) rfl ?_; rintro a w e2 L ⟨X22, hS22, rfl⟩ hf hT
                obtain ⟨A3, c3, rfl, hc3⟩ := hS22.shape
                refine rd hf rfl (yl_build rfl Try.underlying147 zr_147 (places := [(0, 1), (1, 1), (2, 1)]) (by kernel_rfl) (by kernel_rfl) rfl) rfl rfl ?_; intro a hf
                refine ef_call hf rfl (wanted_none _ _ rfl) rfl rfl (by kernel_rfl) (Spec.frame (L2 := [_, _, _]) (ih (xs.length - (i + 1)) (by omega) (i + 1) rfl (by omega) _ _ (Lc ++ [(i : Int)]) (cw + x.wo) (cs + x.sz) _ _ hT hE.app.app (hS22.els (.head _)) (.inr ⟨by omega, Lc, by simp⟩) (by simp; omega) (by omega) (by omega) (by omega) (by omega))) rfl (l' := [(67, _), (50, _), (49, _), (47, _), (44, _), (10, _), (66, _), (65, _), (64, _), (63, _), (62, _), (61, _), (60, _), (59, _), (58, _), (57, _), (56, _), (55, _), (54, _), (53, _), (52, _), (51, _), (48, _), (46, _), (45, _), (43, _), (42, _), (41, _), (9, _), (7, _), (6, _), (5, _), (0, _), (1, _)]) rfl ?_; rintro a w v L ⟨L1, ⟨qr, z, Yr, rfl, hz, hR2, rfl⟩, rfl⟩ hf hT
                obtain ⟨Ar, cr, rfl⟩ := hR2.shape (hS22.els (R := [_]) (List.mem_cons_self ..))
                replace hT : Tot _ _ ([_, _, _, _] ++ ([_, _, _, _] ++ rs)) := hT.bring 3
                refine efS hf hT rfl rfl (ef_storeW rfl rfl sz_147 rfl rfl rfl) ?_; rintro w L rfl hT
                refine plan_nil ?_
                replace hf := hf.sel [10, 9, 7, 6, 5, 0, 1] (l' := [(10, _), (9, _), (7, _), (6, _), (5, _), (0, _), (1, _)]) rfl
                have hTT : (Lc ++ [(i : Int)]) ++ cidxI (xs.length - (i + 1)) (24 - (i + 1)) (i + 1) z.b = Lc ++ cidxI (xs.length - g0) (24 - g0) g0 ((unit x (23 - i)).add z).b := by
                  unfold cidxI; rw [idx_new hn hx hai hlti x z hz.mem.1]; simp
                have hz' : Top (fun y => y ∈ all (xs.drop (i + 1)) (24 - (i + 1)) ∧ x.sz + y.s ≤ m - cs) z := ⟨⟨hz.mem.1, by have := hz.mem.2; omega⟩, fun y hy => hz.max y ⟨hy.1, by have := hy.2; omega⟩⟩
                rcases hR2 with ⟨he, hl⟩ | hY
                · skip
                  exact ⟨(b27, _, z), _, hf.sel [10, 9, 7, 6, 5, 0, 1] rfl, ⟨hz', _, by rw [hl] at he; rw [← hTT, hl, he]; exact hS22.els (List.mem_cons_self ..), rfl⟩, (hT.brings [3, 2]).tail.tail⟩
                · skip
                  exact ⟨(b27, _, z), _, hf.sel [10, 9, 7, 6, 5, 0, 1] rfl, ⟨hz', _, by rw [← hTT]; exact hY, rfl⟩, (hT.brings [3, 3]).tail.tail⟩
              · skip
                refine planT_fin ?_
                refine ef hf hT rfl rfl (ef_buildSlice (E := encI) (xs := [(i : Int)]) rfl rfl Try.underlying82 zs_3 rfl (by decide) rfl (by decide)) rfl (l' := [(44, _), (10, _), (66, _), (65, _), (64, _), (63, _), (62, _), (61, _), (60, _), (59, _), (58, _), (57, _), (56, _), (55, _), (54, _), (53, _), (52, _), (51, _), (48, _), (46, _), (45, _), (43, _), (42, _), (41, _), (9, _), (7, _), (6, _), (5, _), (0, _), (1, _)]) rfl ?_; rintro a w one L ⟨b30, p12, hvp12, hp12, rfl⟩ hf hT
                replace hT : Tot _ _ ([_, _, _] ++ ([_, _, _, _] ++ rs)) := hT.bring 1
                refine ef hf hT rfl rfl (ef_append (E := encI) (L := [_, _]) rfl rfl Try.underlying82 zb_3 rfl hp10 (hL.app.app) (by simp; omega) (by simp [maxLen]; omega)) rfl (l' := [(49, _), (44, _), (10, _), (66, _), (65, _), (64, _), (63, _), (62, _), (61, _), (60, _), (59, _), (58, _), (57, _), (56, _), (55, _), (54, _), (53, _), (52, _), (51, _), (48, _), (46, _), (45, _), (43, _), (42, _), (41, _), (9, _), (7, _), (6, _), (5, _), (0, _), (1, _)]) rfl ?_; rintro a w e1 L ⟨X23, hS23, rfl⟩ hf hT
                refine ef hf hT rfl rfl (ef_append (E := encI) (L := [_, _]) rfl rfl Try.underlying82 zb_3 rfl hS23 (hp12.els (.tail _ (.head _))) (by simp; omega) (by simp [maxLen]; omega)) rfl (l' := [(47, _), (49, _), (44, _), (10, _), (66, _), (65, _), (64, _), (63, _), (62, _), (61, _), (60, _), (59, _), (58, _), (57, _), (56, _), (55, _), (54, _), (53, _), (52, _), (51, _), (48, _), (46, _), (45, _), (43, _), (42, _), (41, _), (9, _), (7, _), (6, _), (5, _), (0, _), (1, _)]) rfl ?_; rintro a w e2 L ⟨X24, hS24, rfl⟩ hf hT
                obtain ⟨A3, c3, rfl, hc3⟩ := hS24.shape
                refine rd hf rfl (yl_build rfl Try.underlying147 zr_147 (places := [(0, 1), (1, 1), (2, 1)]) (by kernel_rfl) (by kernel_rfl) rfl) rfl rfl ?_; intro a hf
                refine ef_call hf rfl (wanted_none _ _ rfl) rfl rfl (by kernel_rfl) (Spec.frame (L2 := [_, _, _]) (ih (xs.length - (i + 1)) (by omega) (i + 1) rfl (by omega) _ _ (Lc ++ [(i : Int)]) (cw + x.wo) (cs + x.sz) _ _ hT hE.app.app (hS24.els (.head _)) (.inr ⟨by omega, Lc, by simp⟩) (by simp; omega) (by omega) (by omega) (by omega) (by omega))) rfl (l' := [(67, _), (50, _), (47, _), (49, _), (44, _), (10, _), (66, _), (65, _), (64, _), (63, _), (62, _), (61, _), (60, _), (59, _), (58, _), (57, _), (56, _), (55, _), (54, _), (53, _), (52, _), (51, _), (48, _), (46, _), (45, _), (43, _), (42, _), (41, _), (9, _), (7, _), (6, _), (5, _), (0, _), (1, _)]) rfl ?_; rintro a w v L ⟨L1, ⟨qr, z, Yr, rfl, hz, hR2, rfl⟩, rfl⟩ hf hT
                obtain ⟨Ar, cr, rfl⟩ := hR2.shape (hS24.els (R := [_]) (List.mem_cons_self ..))
                replace hT : Tot _ _ ([_, _, _, _] ++ ([_, _, _, _] ++ rs)) := hT.bring 3
                refine efS hf hT rfl rfl (ef_storeW rfl rfl sz_147 rfl rfl rfl) ?_; rintro w L rfl hT
                refine plan_nil ?_
                replace hf := hf.sel [10, 9, 7, 6, 5, 0, 1] (l' := [(10, _), (9, _), (7, _), (6, _), (5, _), (0, _), (1, _)]) rfl
                have hTT : (Lc ++ [(i : Int)]) ++ cidxI (xs.length - (i + 1)) (24 - (i + 1)) (i + 1) z.b = Lc ++ cidxI (xs.length - g0) (24 - g0) g0 ((unit x (23 - i)).add z).b := by
                  unfold cidxI; rw [idx_new hn hx hai hlti x z hz.mem.1]; simp
                have hz' : Top (fun y => y ∈ all (xs.drop (i + 1)) (24 - (i + 1)) ∧ x.sz + y.s ≤ m - cs) z := ⟨⟨hz.mem.1, by have := hz.mem.2; omega⟩, fun y hy => hz.max y ⟨hy.1, by have := hy.2; omega⟩⟩
                rcases hR2 with ⟨he, hl⟩ | hY
                · skip
                  exact ⟨(b27, _, z), _, hf.sel [10, 9, 7, 6, 5, 0, 1] rfl, ⟨hz', _, by rw [hl] at he; rw [← hTT, hl, he]; exact hS24.els (List.mem_cons_self ..), rfl⟩, (hT.brings [3, 2]).tail.tail⟩
                · skip
                  exact ⟨(b27, _, z), _, hf.sel [10, 9, 7, 6, 5, 0, 1] rfl, ⟨hz', _, by rw [← hTT]; exact hY, rfl⟩, (hT.brings [3, 3]).tail.tail⟩
            · skip
              refine planT_fin ?_
              refine ef hf hT rfl rfl (ef_buildSlice (E := encI) (xs := [(i : Int)]) rfl rfl Try.underlying82 zs_3 rfl (by decide) rfl (by decide)) rfl (l' := [(10, _), (66, _), (65, _), (64, _), (63, _), (62, _), (61, _), (60, _), (59, _), (58, _), (57, _), (56, _), (55, _), (54, _), (53, _), (52, _), (51, _), (48, _), (46, _), (45, _), (43, _), (42, _), (41, _), (9, _), (7, _), (6, _), (5, _), (0, _), (1, _)]) rfl ?_; rintro a w one L ⟨b31, p13, hvp13, hp13, rfl⟩ hf hT
              refine ef hf hT rfl rfl (ef_buildSlice0 (E := encI) Try.underlying82 zs_3) rfl (l' := [(49, _), (10, _), (66, _), (65, _), (64, _), (63, _), (62, _), (61, _), (60, _), (59, _), (58, _), (57, _), (56, _), (55, _), (54, _), (53, _), (52, _), (51, _), (48, _), (46, _), (45, _), (43, _), (42, _), (41, _), (9, _), (7, _), (6, _), (5, _), (0, _), (1, _)]) rfl ?_; rintro a w e0 L ⟨b32, p14, hvp14, hp14, rfl⟩ hf hT
              refine ef hf hT rfl rfl (ef_append (E := encI) (L := [_, _]) rfl rfl Try.underlying82 zb_3 rfl hp14 (hL.app.app) (by simp; omega) (by simp [maxLen]; omega)) rfl (l' := [(44, _), (49, _), (10, _), (66, _), (65, _), (64, _), (63, _), (62, _), (61, _), (60, _), (59, _), (58, _), (57, _), (56, _), (55, _), (54, _), (53, _), (52, _), (51, _), (48, _), (46, _), (45, _), (43, _), (42, _), (41, _), (9, _), (7, _), (6, _), (5, _), (0, _), (1, _)]) rfl ?_; rintro a w e1 L ⟨X25, hS25, rfl⟩ hf hT
              refine ef hf hT rfl rfl (ef_append (E := encI) (L := [_, _]) rfl rfl Try.underlying82 zb_3 rfl hS25 (hp13.els (.tail _ (.head _))) (by simp; omega) (by simp [maxLen]; omega)) rfl (l' := [(47, _), (44, _), (49, _), (10, _), (66, _), (65, _), (64, _), (63, _), (62, _), (61, _), (60, _), (59, _), (58, _), (57, _), (56, _), (55, _), (54, _), (53, _), (52, _), (51, _), (48, _), (46, _), (45, _), (43, _), (42, _), (41, _), (9, _), (7, _), (6, _), (5, _), (0, _), (1, _)]) rfl ?_; rintro a w e2 L ⟨X26, hS26, rfl⟩ hf hT
              obtain ⟨A3, c3, rfl, hc3⟩ := hS26.shape
              refine rd hf rfl (yl_build rfl Try.underlying147 zr_147 (places := [(0, 1), (1, 1), (2, 1)]) (by kernel_rfl) (by kernel_rfl) rfl) rfl rfl ?_; intro a hf
              refine ef_call hf rfl (wanted_none _ _ rfl) rfl rfl (by kernel_rfl) (Spec.frame (L2 := [_, _, _]) (ih (xs.length - (i + 1)) (by omega) (i + 1) rfl (by omega) _ _ (Lc ++ [(i : Int)]) (cw + x.wo) (cs + x.sz) _ _ hT hE.app.app (hS26.els (.head _)) (.inr ⟨by omega, Lc, by simp⟩) (by simp; omega) (by omega) (by omega) (by omega) (by omega))) rfl (l' := [(67, _), (50, _), (47, _), (44, _), (49, _), (10, _), (66, _), (65, _), (64, _), (63, _), (62, _), (61, _), (60, _), (59, _), (58, _), (57, _), (56, _), (55, _), (54, _), (53, _), (52, _), (51, _), (48, _), (46, _), (45, _), (43, _), (42, _), (41, _), (9, _), (7, _), (6, _), (5, _), (0, _), (1, _)]) rfl ?_; rintro a w v L ⟨L1, ⟨qr, z, Yr, rfl, hz, hR2, rfl⟩, rfl⟩ hf hT
              obtain ⟨Ar, cr, rfl⟩ := hR2.shape (hS26.els (R := [_]) (List.mem_cons_self ..))
              replace hT : Tot _ _ ([_, _, _, _] ++ ([_, _, _, _] ++ rs)) := hT.bring 3
              refine efS hf hT rfl rfl (ef_storeW rfl rfl sz_147 rfl rfl rfl) ?_; rintro w L rfl hT
              refine plan_nil ?_
              replace hf := hf.sel [10, 9, 7, 6, 5, 0, 1] (l' := [(10, _), (9, _), (7, _), (6, _), (5, _), (0, _), (1, _)]) rfl
              have hTT : (Lc ++ [(i : Int)]) ++ cidxI (xs.length - (i + 1)) (24 - (i + 1)) (i + 1) z.b = Lc ++ cidxI (xs.length - g0) (24 - g0) g0 ((unit x (23 - i)).add z).b := by
                unfold cidxI; rw [idx_new hn hx hai hlti x z hz.mem.1]; simp
              have hz' : Top (fun y => y ∈ all (xs.drop (i + 1)) (24 - (i + 1)) ∧ x.sz + y.s ≤ m - cs) z := ⟨⟨hz.mem.1, by have := hz.mem.2; omega⟩, fun y hy => hz.max y ⟨hy.1, by have := hy.2; omega⟩⟩
              rcases hR2 with ⟨he, hl⟩ | hY
              · skip
                exact ⟨(b27, _, z), _, hf.sel [10, 9, 7, 6, 5, 0, 1] rfl, ⟨hz', _, by rw [hl] at he; rw [← hTT, hl, he]; exact hS26.els (List.mem_cons_self ..), rfl⟩, (hT.brings [3, 2]).tail.tail⟩
              · skip
                exact ⟨(b27, _, z), _, hf.sel [10, 9, 7, 6, 5, 0, 1] rfl, ⟨hz', _, by rw [← hTT]; exact hY, rfl⟩, (hT.brings [3, 3]).tail.tail⟩
        · clear hf0 hf hT; rintro ⟨bn, qr, z⟩ a w L hf ⟨hz, Y1, hY1, rfl⟩ hT
          replace hf : Fr _ [(10, .pointer (some ⟨bn, 0, none⟩)), (9, _), (7, _), (6, _), (5, _), (0, _), (1, _)] _ _ := hf
          obtain ⟨Ar, cr, rfl, hAr, hmr⟩ := hY1.shape
          refine wpIn_seq ?_
          -- region 10: its branches meet again
          have hf0 := hf.sel [10, 9, 7, 6, 5, 0, 1] (l' := [(10, _), (9, _), (7, _), (6, _), (5, _), (0, _), (1, _)]) rfl
          refine wp_join hf0 hT 87 (.bool (decide (wsgt ((unit x (23 - i)).add z) t))) ?_ ?_
          · clear hf0
            -- region 10 (ref.go:204)
            refine wp_reg ([]) ([_, _, _, _, _, _] ++ rs) [(0, true), (1, true), (2, true), (3, true), (4, true), (5, true), (6, true), (7, true), (8, true), (9, true), (10, true), (11, true), (12, true), (13, true), (14, true), (15, true), (16, true), (17, true), (18, true)] mixed (by kernel_rfl) (hT) ?_; intro w hT
            refine rd hf rfl (yl_faddr Try.underlying147 rfl rfl sz_2 (k := 1) rfl) rfl rfl ?_; intro a hf
            refine rd hf rfl (yl_load Try.underlying2 rfl rfl ⟨_, .head _, _, _, _, pt_self _ _, rfl⟩) rfl rfl ?_; intro a hf
            refine rd hf rfl (yl_faddr Try.underlying147 rfl rfl sz_2 (k := 1) rfl) rfl rfl ?_; intro a hf
            refine rd hf rfl (yl_load Try.underlying2 rfl rfl ⟨_, .tail _ (.tail _ (.head _)), _, _, _, pt_self _ _, rfl⟩) rfl rfl ?_; intro a hf
            refine rd hf rfl (yl_cmp rfl rfl rfl) rfl rfl ?_; intro a hf
            refine rd hf rfl (yl_move rfl) rfl rfl ?_; intro a hf
            by_cases hg5 : tw < cw + x.wo + z.w
            · have hgT1 : decide (tw < cw + x.wo + z.w) = true := by simpa using hg5
              refine rdF hf rfl rfl rfl rfl (by first | exact hgT1 | simp [hgT1]) rfl (l' := [(75, _), (74, _), (73, _), (72, _), (71, _), (70, _), (69, _), (10, _), (9, _), (7, _), (6, _), (5, _), (0, _), (1, _)]) rfl ?_; intro a hf
              refine rdF hf rfl rfl rfl rfl (by first | exact hgT1 | simp [hgT1]) rfl (l' := [(76, _), (75, _), (74, _), (73, _), (72, _), (71, _), (70, _), (69, _), (10, _), (9, _), (7, _), (6, _), (5, _), (0, _), (1, _)]) rfl ?_; intro a hf
              refine rdF hf rfl rfl rfl rfl (by first | exact hgT1 | simp [hgT1]) rfl (l' := [(77, _), (76, _), (75, _), (74, _), (73, _), (72, _), (71, _), (70, _), (69, _), (10, _), (9, _), (7, _), (6, _), (5, _), (0, _), (1, _)]) rfl ?_; intro a hf
              refine rdF hf rfl rfl rfl rfl (by first | exact hgT1 | simp [hgT1]) rfl (l' := [(78, _), (77, _), (76, _), (75, _), (74, _), (73, _), (72, _), (71, _), (70, _), (69, _), (10, _), (9, _), (7, _), (6, _), (5, _), (0, _), (1, _)]) rfl ?_; intro a hf
              refine rdF hf rfl rfl rfl rfl (by first | exact hgT1 | simp [hgT1]) rfl (l' := [(79, _), (78, _), (77, _), (76, _), (75, _), (74, _), (73, _), (72, _), (71, _), (70, _), (69, _), (10, _), (9, _), (7, _), (6, _), (5, _), (0, _), (1, _)]) rfl ?_; intro a hf
              refine rdF hf rfl rfl rfl rfl (by first | exact hgT1 | simp [hgT1]) rfl (l' := [(80, _), (79, _), (78, _), (77, _), (76, _), (75, _), (74, _), (73, _), (72, _), (71, _), (70, _), (69, _), (10, _), (9, _), (7, _), (6, _), (5, _), (0, _), (1, _)]) rfl ?_; intro a hf
              refine rdU hf rfl rfl rfl rfl rfl (l' := [(81, _), (80, _), (79, _), (78, _), (77, _), (76, _), (75, _), (74, _), (73, _), (72, _), (71, _), (70, _), (69, _), (10, _), (9, _), (7, _), (6, _), (5, _), (0, _), (1, _)]) rfl ?_; intro a hf
              refine rdU hf rfl rfl rfl rfl rfl (l' := [(82, _), (81, _), (80, _), (79, _), (78, _), (77, _), (76, _), (75, _), (74, _), (73, _), (72, _), (71, _), (70, _), (69, _), (10, _), (9, _), (7, _), (6, _), (5, _), (0, _), (1, _)]) rfl ?_; intro a hf
              refine rdU hf rfl rfl rfl rfl rfl (l' := [(83, _), (82, _), (81, _), (80, _), (79, _), (78, _), (77, _), (76, _), (75, _), (74, _), (73, _), (72, _), (71, _), (70, _), (69, _), (10, _), (9, _), (7, _), (6, _), (5, _), (0, _), (1, _)]) rfl ?_; intro a hf
              refine rdU hf rfl rfl rfl rfl rfl (l' := [(84, _), (83, _), (82, _), (81, _), (80, _), (79, _), (78, _), (77, _), (76, _), (75, _), (74, _), (73, _), (72, _), (71, _), (70, _), (69, _), (10, _), (9, _), (7, _), (6, _), (5, _), (0, _), (1, _)]) rfl ?_; intro a hf
              refine rdU hf rfl rfl rfl rfl rfl (l' := [(85, _), (84, _), (83, _), (82, _), (81, _), (80, _), (79, _), (78, _), (77, _), (76, _), (75, _), (74, _), (73, _), (72, _), (71, _), (70, _), (69, _), (10, _), (9, _), (7, _), (6, _), (5, _), (0, _), (1, _)]) rfl ?_; intro a hf
              refine rdF hf rfl rfl rfl rfl (by first | exact hgT1 | simp [hgT1]) rfl (l' := [(86, _), (85, _), (84, _), (83, _), (82, _), (81, _), (80, _), (79, _), (78, _), (77, _), (76, _), (75, _), (74, _), (73, _), (72, _), (71, _), (70, _), (69, _), (10, _), (9, _), (7, _), (6, _), (5, _), (0, _), (1, _)]) rfl ?_; intro a hf
              refine rd hf rfl (yl_pickTT rfl hgT1 rfl) rfl rfl ?_; intro a hf
              refine plan_nil ?_
              exact ⟨(hf.sel [87, 10, 9, 7, 6, 5, 0, 1] (l' := [(87, _), (10, _), (9, _), (7, _), (6, _), (5, _), (0, _), (1, _)]) rfl).fix (congrArg Value.bool (by have u1 : ((unit x (23 - i)).add z).w = x.wo + z.w := rfl; have u2 : ((unit x (23 - i)).add z).s = x.sz + z.s := rfl; first | (symm; apply decide_eq_true; unfold wsgt; omega) | (symm; apply decide_eq_false; unfold wsgt; omega) | (apply decide_eq_decide.2; unfold wsgt; omega))), hT⟩
            · have hgT1 : decide (tw < cw + x.wo + z.w) = false := by simpa using hg5
              refine rdT hf rfl rfl rfl rfl (by first | exact hgT1 | simp [hgT1]) (yl_faddr Try.underlying147 rfl rfl sz_2 (k := 1) rfl) rfl (l' := [(75, _), (74, _), (73, _), (72, _), (71, _), (70, _), (69, _), (10, _), (9, _), (7, _), (6, _), (5, _), (0, _), (1, _)]) rfl ?_; intro a hf
              refine rdT hf rfl rfl rfl rfl (by first | exact hgT1 | simp [hgT1]) (yl_load Try.underlying2 rfl rfl ⟨_, .head _, _, _, _, pt_self _ _, rfl⟩) rfl (l' := [(76, _), (75, _), (74, _), (73, _), (72, _), (71, _), (70, _), (69, _), (10, _), (9, _), (7, _), (6, _), (5, _), (0, _), (1, _)]) rfl ?_; intro a hf
              refine rdT hf rfl rfl rfl rfl (by first | exact hgT1 | simp [hgT1]) (yl_faddr Try.underlying147 rfl rfl sz_2 (k := 1) rfl) rfl (l' := [(77, _), (76, _), (75, _), (74, _), (73, _), (72, _), (71, _), (70, _), (69, _), (10, _), (9, _), (7, _), (6, _), (5, _), (0, _), (1, _)]) rfl ?_; intro a hf
              refine rdT hf rfl rfl rfl rfl (by first | exact hgT1 | simp [hgT1]) (yl_load Try.underlying2 rfl rfl ⟨_, .tail _ (.tail _ (.head _)), _, _, _, pt_self _ _, rfl⟩) rfl (l' := [(78, _), (77, _), (76, _), (75, _), (74, _), (73, _), (72, _), (71, _), (70, _), (69, _), (10, _), (9, _), (7, _), (6, _), (5, _), (0, _), (1, _)]) rfl ?_; intro a hf
              refine rdT hf rfl rfl rfl rfl (by first | exact hgT1 | simp [hgT1]) (yl_cmp rfl rfl rfl) rfl (l' := [(79, _), (78, _), (77, _), (76, _), (75, _), (74, _), (73, _), (72, _), (71, _), (70, _), (69, _), (10, _), (9, _), (7, _), (6, _), (5, _), (0, _), (1, _)]) rfl ?_; intro a hf
              refine rdT hf rfl rfl rfl rfl (by first | exact hgT1 | simp [hgT1]) (yl_move rfl) rfl (l' := [(80, _), (79, _), (78, _), (77, _), (76, _), (75, _), (74, _), (73, _), (72, _), (71, _), (70, _), (69, _), (10, _), (9, _), (7, _), (6, _), (5, _), (0, _), (1, _)]) rfl ?_; intro a hf
              by_cases hg11 : cw + x.wo + z.w = tw
              · have hgT2 : decide (cw + x.wo + z.w = tw) = true := by simpa using hg11
                refine rdT hf rfl rfl rfl rfl (by first | exact hgT2 | simp [hgT2]) (yl_faddr Try.underlying147 rfl rfl sz_2 (k := 2) rfl) rfl (l' := [(81, _), (80, _), (79, _), (78, _), (77, _), (76, _), (75, _), (74, _), (73, _), (72, _), (71, _), (70, _), (69, _), (10, _), (9, _), (7, _), (6, _), (5, _), (0, _), (1, _)]) rfl ?_; intro a hf
                refine rdT hf rfl rfl rfl rfl (by first | exact hgT2 | simp [hgT2]) (yl_load Try.underlying2 rfl rfl ⟨_, .head _, _, _, _, pt_self _ _, rfl⟩) rfl (l' := [(82, _), (81, _), (80, _), (79, _), (78, _), (77, _), (76, _), (75, _), (74, _), (73, _), (72, _), (71, _), (70, _), (69, _), (10, _), (9, _), (7, _), (6, _), (5, _), (0, _), (1, _)]) rfl ?_; intro a hf
                refine rdT hf rfl rfl rfl rfl (by first | exact hgT2 | simp [hgT2]) (yl_faddr Try.underlying147 rfl rfl sz_2 (k := 2) rfl) rfl (l' := [(83, _), (82, _), (81, _), (80, _), (79, _), (78, _), (77, _), (76, _), (75, _), (74, _), (73, _), (72, _), (71, _), (70, _), (69, _), (10, _), (9, _), (7, _), (6, _), (5, _), (0, _), (1, _)]) rfl ?_; intro a hf
                refine rdT hf rfl rfl rfl rfl (by first | exact hgT2 | simp [hgT2]) (yl_load Try.underlying2 rfl rfl ⟨_, .tail _ (.tail _ (.head _)), _, _, _, pt_self _ _, rfl⟩) rfl (l' := [(84, _), (83, _), (82, _), (81, _), (80, _), (79, _), (78, _), (77, _), (76, _), (75, _), (74, _), (73, _), (72, _), (71, _), (70, _), (69, _), (10, _), (9, _), (7, _), (6, _), (5, _), (0, _), (1, _)]) rfl ?_; intro a hf
                refine rdT hf rfl rfl rfl rfl (by first | exact hgT2 | simp [hgT2]) (yl_cmp rfl rfl rfl) rfl (l' := [(85, _), (84, _), (83, _), (82, _), (81, _), (80, _), (79, _), (78, _), (77, _), (76, _), (75, _), (74, _), (73, _), (72, _), (71, _), (70, _), (69, _), (10, _), (9, _), (7, _), (6, _), (5, _), (0, _), (1, _)]) rfl ?_; intro a hf
                refine rdT hf rfl rfl rfl rfl (by first | exact hgT1 | simp [hgT1]) (yl_pickTT rfl hgT2 rfl) rfl (l' := [(86, _), (85, _), (84, _), (83, _), (82, _), (81, _), (80, _), (79, _), (78, _), (77, _), (76, _), (75, _), (74, _), (73, _), (72, _), (71, _), (70, _), (69, _), (10, _), (9, _), (7, _), (6, _), (5, _), (0, _), (1, _)]) rfl ?_; intro a hf
                refine rd hf rfl (yl_pickFF rfl hgT1 rfl) rfl rfl ?_; intro a hf
                refine plan_nil ?_
                exact ⟨(hf.sel [87, 10, 9, 7, 6, 5, 0, 1] (l' := [(87, _), (10, _), (9, _), (7, _), (6, _), (5, _), (0, _), (1, _)]) rfl).fix (congrArg Value.bool (by have u1 : ((unit x (23 - i)).add z).w = x.wo + z.w := rfl; have u2 : ((unit x (23 - i)).add z).s = x.sz + z.s := rfl; first | (symm; apply decide_eq_true; unfold wsgt; omega) | (symm; apply decide_eq_false; unfold wsgt; omega) | (apply decide_eq_decide.2; unfold wsgt; omega))), hT⟩
              · have hgT2 : decide (cw + x.wo + z.w = tw) = false := by simpa using hg11
                refine rdF hf rfl rfl rfl rfl (by first | exact hgT2 | simp [hgT2]) rfl (l' := [(81, _), (80, _), (79, _), (78, _), (77, _), (76, _), (75, _), (74, _), (73, _), (72, _), (71, _), (70, _), (69, _), (10, _), (9, _), (7, _), (6, _), (5, _), (0, _), (1, _)]) rfl ?_; intro a hf
                refine rdF hf rfl rfl rfl rfl (by first | exact hgT2 | simp [hgT2]) rfl (l' := [(82, _), (81, _), (80, _), (79, _), (78, _), (77, _), (76, _), (75, _), (74, _), (73, _), (72, _), (71, _), (70, _), (69, _), (10, _), (9, _), (7, _), (6, _), (5, _), (0, _), (1, _)]) rfl ?_; intro a hf
                refine rdF hf rfl rfl rfl rfl (by first | exact hgT2 | simp [hgT2]) rfl (l' := [(83, _), (82, _), (81, _), (80, _), (79, _), (78, _), (77, _), (76, _), (75, _), (74, _), (73, _), (72, _), (71, _), (70, _), (69, _), (10, _), (9, _), (7, _), (6, _), (5, _), (0, _), (1, _)]) rfl ?_; intro a hf
                refine rdF hf rfl rfl rfl rfl (by first | exact hgT2 | simp [hgT2]) rfl (l' := [(84, _), (83, _), (82, _), (81, _), (80, _), (79, _), (78, _), (77, _), (76, _), (75, _), (74, _), (73, _), (72, _), (71, _), (70, _), (69, _), (10, _), (9, _), (7, _), (6, _), (5, _), (0, _), (1, _)]) rfl ?_; intro a hf
                refine rdF hf rfl rfl rfl rfl (by first | exact hgT2 | simp [hgT2]) rfl (l' := [(85, _), (84, _), (83, _), (82, _), (81, _), (80, _), (79, _), (78, _), (77, _), (76, _), (75, _), (74, _), (73, _), (72, _), (71, _), (70, _), (69, _), (10, _), (9, _), (7, _), (6, _), (5, _), (0, _), (1, _)]) rfl ?_; intro a hf
                refine rdT hf rfl rfl rfl rfl (by first | exact hgT1 | simp [hgT1]) (yl_pickFF rfl hgT2 rfl) rfl (l' := [(86, _), (85, _), (84, _), (83, _), (82, _), (81, _), (80, _), (79, _), (78, _), (77, _), (76, _), (75, _), (74, _), (73, _), (72, _), (71, _), (70, _), (69, _), (10, _), (9, _), (7, _), (6, _), (5, _), (0, _), (1, _)]) rfl ?_; intro a hf
                refine rd hf rfl (yl_pickFF rfl hgT1 rfl) rfl rfl ?_; intro a hf
                refine plan_nil ?_
                exact ⟨(hf.sel [87, 10, 9, 7, 6, 5, 0, 1] (l' := [(87, _), (10, _), (9, _), (7, _), (6, _), (5, _), (0, _), (1, _)]) rfl).fix (congrArg Value.bool (by have u1 : ((unit x (23 - i)).add z).w = x.wo + z.w := rfl; have u2 : ((unit x (23 - i)).add z).s = x.sz + z.s := rfl; first | (symm; apply decide_eq_true; unfold wsgt; omega) | (symm; apply decide_eq_false; unfold wsgt; omega) | (apply decide_eq_decide.2; unfold wsgt; omega))), hT⟩
          · clear hf hf0 hT; intro a w hf hT
            refine wp_ifd hf rfl (fun hg' => ?_) (fun hg' => ?_)
            · -- then
              -- region 11 (ref.go:205)
              refine wp_reg ([]) ([_, _, _, _, _, _] ++ rs) [(0, true), (1, false)] mixed (by kernel_rfl) (hT) ?_; intro w hT
              refine rd hf rfl (yl_loadB Try.underlying147 rfl sz_147 (vs := [.slice Ar (Lc ++ cidxI (xs.length - g0) (24 - g0) g0 ((unit x (23 - i)).add z).b).length cr, .int .i64 (cw + x.wo + z.w), .int .i64 (cs + x.sz + z.s)]) (.head _) rfl (pt_self _ _) rfl rfl) rfl rfl ?_; intro a hf
              replace hT : Tot _ _ ([_] ++ ([_, _, _, _, _] ++ rs)) := hT.bring 2
              refine efS_last hf hT rfl rfl (by kernel_rfl) (ef_storeW rfl rfl sz_147 rfl rfl rfl) ?_; rintro w L rfl hT
              replace hf := hf.sel [9, 7, 6, 5, 0, 1] (l' := [(9, _), (7, _), (6, _), (5, _), (0, _), (1, _)]) rfl
              -- region 7 (ref.go:199)
              refine wp_reg ([]) ([_, _, _, _, _, _] ++ rs) [(0, true), (1, true), (2, true)] mixed (by kernel_rfl) (hT) ?_; intro w hT
              refine rd hf rfl (yl_move rfl) rfl rfl ?_; intro a hf
              refine rd hf rfl (yl_add rfl rfl (by unfold inI64; omega)) rfl rfl ?_; intro a hf
              refine rw_ hf rfl (yl_assign rfl) rfl (l' := [(9, _), (31, _), (30, _), (7, _), (6, _), (5, _), (0, _), (1, _)]) rfl ?_; intro a hf
              refine plan_nil ?_
              exact ⟨(i + 1, ((unit x (23 - i)).add z), _, _, _), _, hf.sel [9, 7, 6, 5, 0, 1] rfl, ⟨by omega, by omega, by have h1 := hch.step hn hx hai x hj z hz; rw [if_pos hg'] at h1; exact h1, Int.add_assoc .., Int.add_assoc .., _, .inr hY1, rfl⟩, (hT.brings [3, 2]).tail.tail, by first | omega | (dsimp only; omega)⟩
            · -- else
              refine wpIn_skip ?_
              -- region 7 (ref.go:199)
              refine wp_reg ([]) ([_, _, _, _, _, _] ++ rs) [(0, true), (1, true), (2, true)] mixed (by kernel_rfl) (hT) ?_; intro w hT
              refine rd hf rfl (yl_move rfl) rfl rfl ?_; intro a hf
              refine rd hf rfl (yl_add rfl rfl (by unfold inI64; omega)) rfl rfl ?_; intro a hf
              refine rw_ hf rfl (yl_assign rfl) rfl (l' := [(9, _), (31, _), (30, _), (87, _), (10, _), (7, _), (6, _), (5, _), (0, _), (1, _)]) rfl ?_; intro a hf
              refine plan_nil ?_
              replace hf := hf.sel [9, 7, 6, 5, 0, 1] (l' := [(9, _), (7, _), (6, _), (5, _), (0, _), (1, _)]) rfl
              exact ⟨(i + 1, t, _, tw, ts), _, hf.sel [9, 7, 6, 5, 0, 1] rfl, ⟨by omega, by omega, by have h1 := hch.step hn hx hai x hj z hz; rw [if_neg hg'] at h1; exact h1, htw, hts, Y, hR, rfl⟩, (hT.brings [1, 1]).tail.tail, by first | omega | (dsimp only; omega)⟩
    · -- else
      obtain rfl : i = xs.length := by omega
      have htop := hch.done hn hx ha
      refine wpIn_exit ?_
      refine then_exit ?_
      refine then_exit ?_
      refine inBlock_hit ?_
      refine wpIn_seq ?_
      -- region 12 (ref.go:208)
      refine wp_reg ([]) ([_, _, _, _] ++ rs) [(0, true), (1, false)] mixed (by kernel_rfl) (hT) ?_; intro w hT
      refine rd hf rfl (yl_loadB Try.underlying147 rfl sz_147 (vs := [.slice A2 (Lc ++ cidxI (xs.length - g0) (24 - g0) g0 t.b).length c2, .int .i64 tw, .int .i64 ts]) (.head _) rfl (pt_self _ _) rfl rfl) rfl rfl ?_; intro a hf
      replace hT : Tot _ _ ([_] ++ ([_, _, _] ++ rs)) := hT.bring 2
      refine efS_last hf hT rfl rfl (by kernel_rfl) (ef_storeW rfl rfl sz_147 rfl rfl rfl) ?_; rintro w L rfl hT
      replace hf := hf.sel [6] (l' := [(6, _)]) rfl
      refine wpIn_ret ?_
      refine body_retG (L := [_]) [_] [] hf ((hT.brings [3, 2]).tail.tail) rfl (vs := [.agg ([Value.slice A2 (Lc ++ cidxI (xs.length - g0) (24 - g0) g0 t.b).length c2, Value.int .i64 tw, Value.int .i64 ts]).toArray]) ⟨⟨_, _, rfl, fun w hw => ?_⟩, trivial⟩ ⟨_, t, Y, by rw [← htw, ← hts]; rfl, htop, hR, rfl⟩
      exact run_loadA Try.underlying147 rfl sz_147 (vs := [Value.slice A2 (Lc ++ cidxI (xs.length - g0) (24 - g0) g0 t.b).length c2, Value.int .i64 tw, Value.int .i64 ts]) (fun j hj => by
        rw [add_at]
        obtain ⟨u, hu⟩ : ∃ u, ([Value.slice A2 (Lc ++ cidxI (xs.length - g0) (24 - g0) g0 t.b).length c2, Value.int .i64 tw, Value.int .i64 ts])[j]? = some u := ⟨_, List.getElem?_eq_getElem (by simpa using hj)⟩
        rw [hu]
        refine CellIn.at_ ?_ hw
        refine ⟨_, .head _, _, _, _, pt_self _ _, ?_⟩
        show nth ([Value.slice A2 (Lc ++ cidxI (xs.length - g0) (24 - g0) g0 t.b).length c2, Value.int .i64 tw, Value.int .i64 ts]) (0 + j) = some u
        rw [nth_eq, Nat.zero_add]; exact hu) rfl
end Go.Proofs.Ytjhbgciocffihaa
