-- written by gen.py out of walks texts of my own
import Derived.Test.YtjhbgciocffihaaB42
set_option linter.unusedVariables false
set_option linter.unusedSimpArgs false
set_option maxHeartbeats 4000000
namespace Go.Proofs.Ytjhbgciocffihaa
theorem yl_shr16 {P : Program} {R : List Part} {l : List (Nat × Value)} {ty t u : TypeId} {x y : Operand} {j p : Int} (n : Nat) (hx : ev l x = some (.int .u16 p)) (hy : ev l y = some (.int .i64 j)) (b : Nat) (hp : p = (b : Int)) (hj : j = (n : Int)) (hn : n < 16) : Yl P R l (.binOp .shr t x y u) ty (.int .u16 ((b >>> n : Nat) : Int)) := by
  intro a w ha hw dst pos after guard
  have hg : ∀ (p q : Int) (k k' : IntKind), (eqGuard .shr t x y (.int k p) (.int k' q)).run P w = .ok () w := fun p q k k' => by unfold eqGuard; simp [Sem.run_pure]
  simp only [execOp, ha.ev hx, ha.ev hy]
  rw [Sem.run_bind, Sem.run_bind, hg]
  subst hj
  subst hp
  have h1 : ¬ ((n : Int) < 0) := by omega
  have h2 : min n 16 = n := by omega
  have h3 : (b : Int).fdiv (2 ^ n) = ((b >>> n : Nat) : Int) := by
    rw [Nat.shiftRight_eq_div_pow, Int.natCast_ediv, Int.fdiv_eq_ediv_of_nonneg _ (by exact Int.le_of_lt (Int.pow_pos (by decide))), Int.natCast_pow]; rfl
  simp only [binOp, Op.shift, if_neg h1, Int.toNat_natCast, IntKind.bits, h2, h3, Result.andThen, Sem.run_pure]
structure Rd where
  by_ : Int
  lo : Nat
  deaf : Bool
  A : Option Addr
  n : Nat
  c : Nat
def Rd.cells (x : Rd) : List Value := [.int .u16 x.by_, .int .u16 (x.lo : Int), .bool x.deaf, .slice x.A x.n x.c]
def encRd : Enc Rd := ⟨Rd.cells, 4, fun _ => rfl, fun a u h => by simp [Rd.cells] at h; rcases h with rfl | rfl | rfl | rfl <;> rfl, by decide⟩
def Rd.Ok (R : List Part) (x : Rd) : Prop := (0 ≤ x.by_ ∧ x.by_ ≤ 65535) ∧ ∃ pcs, (∀ p ∈ pcs, p.Ok) ∧ Els encPc R (.slice x.A x.n x.c) pcs
def rd0 : Rd := ⟨65535, 0, false, none, 0, 0⟩
theorem rd0_ok (R : List Part) : rd0.Ok R := ⟨by decide, [], by simp, ⟨⟨none, 0, rfl, fun h => absurd h (Nat.lt_irrefl _), Nat.zero_le _⟩, fun j x h => by simp at h⟩⟩
theorem Rd.len {R : List Part} {x : Rd} {pcs : List Pc} (h : Els encPc R (.slice x.A x.n x.c) pcs) : x.n = pcs.length := by
  obtain ⟨A, c, he, _⟩ := h.shape
  simp only [Value.slice.injEq] at he
  exact he.2.1
theorem set_true {g : List Bool} {k : Nat} (hk : k < g.length) (j : Nat) : (g.set k true)[j]? = some true ↔ (j = k ∨ g[j]? = some true) := by
  rw [List.getElem?_set]
  by_cases h : k = j
  · subst h; simp [hk]
  · rw [if_neg h]; exact ⟨.inr, fun h1 => h1.resolve_left (fun h2 => h h2.symm)⟩
theorem get_lt {g : List Bool} (hg : g.length = 100) {k : Int} (h0 : 0 ≤ k) (h1 : k < 100) : ∃ b, g[k.toNat]? = some b := ⟨_, List.getElem?_eq_getElem (by omega)⟩
theorem BufferOnce_spec {e : Env} {w : World} {rs : List Part} (c : Int) (hc : 0 ≤ c ∧ c ≤ 65535) (rl : List Rd) (hRd : ∀ x ∈ rl, x.Ok rs) (v1 : Value) (hE : Els encRd rs v1 rl) (hT : Tot e w rs) : Spec Try.prog 10 #[.int .u16 c, v1] e w rs (fun v L => v = .bool true ∧ L = []) := by
  refine spec_body Try.func10 rfl Try.ntmps10 rfl rfl ?_
  intro a hf
  refine wpIn_seq ?_
  -- region 0 (outright.go:171)
  refine wp_reg ([]) ([] ++ rs) [(0, true)] mixed (by kernel_rfl) (hT) ?_; intro w hT
  refine rd hf rfl (yl_assign rfl) rfl rfl ?_; intro a hf
  refine plan_nil ?_
  refine wpIn_seq ?_
  refine wpIn_seq ?_
  -- region 1 (outright.go:172)
  refine wp_reg ([]) ([] ++ rs) [(0, true), (1, true), (2, true)] mixed (by kernel_rfl) (hT) ?_; intro w hT
  refine rd hf rfl (yl_move rfl) rfl rfl ?_; intro a hf
  refine rd hf rfl (yl_lenE rfl Try.underlying97 hE.app) rfl rfl ?_; intro a hf
  refine rd hf rfl (yl_cmp rfl rfl rfl) rfl rfl ?_; intro a hf
  refine plan_nil ?_
  replace hf := hf.sel [35, 0, 1] (l' := [(35, _), (0, _), (1, _)]) rfl
  refine wp_ifd hf rfl (fun h12 => ?_) (fun h12 => ?_)
  · -- then
    refine wpIn_seq ?_
    -- region 2 (outright.go:173)
    refine wp_reg ([]) ([] ++ rs) [(0, false), (1, true)] mixed (by kernel_rfl) (hT) ?_; intro w hT
    refine ef_call hf rfl (wanted_none _ _ rfl) rfl rfl (by kernel_rfl) (Spec.frame (L2 := []) (fine_spec hT)) rfl (l' := [(35, _), (0, _), (1, _)]) rfl ?_; rintro a w v L ⟨L1, ⟨rfl, rfl⟩, rfl⟩ hf hT
    refine rd hf rfl (yl_assign rfl) rfl rfl ?_; intro a hf
    refine plan_nil ?_
    replace hf := hf.sel [4] (l' := [(4, _)]) rfl
    refine wpIn_ret ?_
    exact body_ret hf (L := []) hT rfl rfl ⟨rfl, rfl⟩
  · -- else
    refine wpIn_skip ?_
    refine wpIn_seq ?_
    -- region 3 (outright.go:175)
    refine wp_reg ([]) ([] ++ rs) [(0, true), (1, true), (2, true), (3, true), (4, false), (5, true), (6, true), (7, true), (8, true), (9, true)] mixed (by kernel_rfl) (hT) ?_; intro w hT
    refine rd hf rfl (yl_move rfl) rfl rfl ?_; intro a hf
    refine rd hf rfl (yl_conv64 rfl Try.underlying22 Try.underlying2 (by unfold inI64; omega)) rfl rfl ?_; intro a hf
    refine rd hf rfl (yl_rem rfl rfl (by omega) (by decide)) rfl rfl ?_; intro a hf
    refine rd hf rfl (yl_add rfl rfl (by unfold inI64; omega)) rfl rfl ?_; intro a hf
    refine ef_call hf rfl (wanted_none _ _ rfl) rfl rfl (by kernel_rfl) (Spec.frame (L2 := []) ((New_spec (1 + c % 2000) hT).mono (fun v L h => by rw [if_pos (⟨by omega, by omega⟩)] at h; exact h))) rfl (l' := [(41, _), (40, _), (39, _), (38, _), (35, _), (0, _), (1, _)]) rfl ?_; rintro a w v L ⟨L1, ⟨b, rfl, hB0⟩, rfl⟩ hf hT
    obtain ⟨y0, y1, y2, y3, y4, rfl⟩ := hB0.five
    refine rd hf rfl (yl_move rfl) rfl rfl ?_; intro a hf
    refine rd hf rfl (yl_extract rfl rfl) rfl rfl ?_; intro a hf
    refine rd hf rfl (yl_extract rfl rfl) rfl rfl ?_; intro a hf
    refine rd hf rfl (yl_assign rfl) rfl rfl ?_; intro a hf
    refine rd hf rfl (yl_assign rfl) rfl rfl ?_; intro a hf
    refine plan_nil ?_
    replace hf := hf.sel [6, 5, 1] (l' := [(6, _), (5, _), (1, _)]) rfl
    refine wpIn_seq ?_
    -- region 4 (outright.go:176)
    refine wp_reg ([]) ([_, _, _, _, _] ++ rs) [(0, false), (1, true)] mixed (by kernel_rfl) (hT) ?_; intro w hT
    refine ef_call hf rfl (wanted_none _ _ rfl) rfl rfl (by kernel_rfl) (Spec.frame (L2 := []) (NewInbox_spec hT)) rfl (l' := [(6, _), (5, _), (1, _)]) rfl ?_; rintro a w v L ⟨L1, ⟨bi, rfl, hI0⟩, rfl⟩ hf hT
    obtain ⟨i0, i1, rfl⟩ := hI0.two
    refine rd hf rfl (yl_assign rfl) rfl rfl ?_; intro a hf
    refine plan_nil ?_
    refine wpIn_seq ?_
    refine wpIn_seq ?_
    -- region 5 (outright.go:177)
    refine wp_reg ([]) ([_, _, _, _, _, _, _] ++ rs) [(0, true), (1, true), (2, true), (3, true), (4, true), (5, true), (6, true), (7, true), (8, true), (9, true)] mixed (by kernel_rfl) (hT) ?_; intro w hT
    refine rd hf rfl (yl_move rfl) rfl rfl ?_; intro a hf
    refine rd hf rfl (yl_cmp rfl rfl rfl) rfl rfl ?_; intro a hf
    refine rd hf rfl (yl_move rfl) rfl rfl ?_; intro a hf
    refine rdT hf rfl rfl rfl rfl (rfl) (yl_move rfl) rfl (l' := [(49, _), (48, _), (47, _), (46, _), (7, _), (45, _), (6, _), (5, _), (1, _)]) rfl ?_; intro a hf
    refine rdT hf rfl rfl rfl rfl (rfl) (yl_ptrNil rfl rfl Try.underlying25 rfl) rfl (l' := [(50, _), (49, _), (48, _), (47, _), (46, _), (7, _), (45, _), (6, _), (5, _), (1, _)]) rfl ?_; intro a hf
    refine rd hf rfl (yl_pickFF rfl rfl rfl) rfl rfl ?_; intro a hf
    refine rd hf rfl (yl_move rfl) rfl rfl ?_; intro a hf
    refine rdT hf rfl rfl rfl rfl (rfl) (yl_move rfl) rfl (l' := [(53, _), (52, _), (51, _), (50, _), (49, _), (48, _), (47, _), (46, _), (7, _), (45, _), (6, _), (5, _), (1, _)]) rfl ?_; intro a hf
    refine rdT hf rfl rfl rfl rfl (rfl) (yl_ptrNil rfl rfl Try.underlying71 rfl) rfl (l' := [(54, _), (53, _), (52, _), (51, _), (50, _), (49, _), (48, _), (47, _), (46, _), (7, _), (45, _), (6, _), (5, _), (1, _)]) rfl ?_; intro a hf
    refine rd hf rfl (yl_pickFF rfl rfl rfl) rfl rfl ?_; intro a hf
    refine plan_nil ?_
    replace hf := hf.sel [55, 7, 5, 1] (l' := [(55, _), (7, _), (5, _), (1, _)]) rfl
    refine wp_ifFF hf rfl (rfl) ?_
    refine wpIn_skip ?_
    refine wpIn_seq ?_
    -- region 7 (outright.go:180)
    refine wp_reg ([]) ([_, _, _, _, _, _, _] ++ rs) [(0, false), (1, true)] mixed (by kernel_rfl) (hT) ?_; intro w hT
    refine ef hf hT rfl rfl ef_makeMap rfl (l' := [(55, _), (7, _), (5, _), (1, _)]) rfl ?_; rintro a w v L ⟨m1, rfl, rfl⟩ hf hT
    have hqm1 := mapL_new (encK := ik) (encV := encR) m1
    refine rd hf rfl (yl_assign rfl) rfl rfl ?_; intro a hf
    refine plan_nil ?_
    try skip
    refine wpIn_seq ?_
    -- region 8 (outright.go:181)
    refine wp_reg ([]) ([_, _, _, _, _, _, _, _] ++ rs) [(0, false), (1, true)] mixed (by kernel_rfl) (hT) ?_; intro w hT
    refine ef hf hT rfl rfl (ef_makeSlice (E := encB) (n := 100) (za := false) rfl rfl Try.underlying98 zb_4 rfl (by decide) (by decide)) rfl (l' := [(8, _), (56, _), (55, _), (7, _), (5, _), (1, _)]) rfl ?_; rintro a w gv L ⟨_, GOa, _, hGOa, rfl⟩ hf hT
    refine rd hf rfl (yl_assign rfl) rfl rfl ?_; intro a hf
    refine plan_nil ?_
    replace hf := hf.sel [9, 8, 7, 5, 1] (l' := [(9, _), (8, _), (7, _), (5, _), (1, _)]) rfl
    refine wpIn_seq ?_
    -- region 9 (outright.go:182)
    refine wp_reg ([]) ([_, _, _, _, _, _, _, _, _] ++ rs) [(0, true)] mixed (by kernel_rfl) (hT) ?_; intro w hT
    refine rd hf rfl (yl_assign rfl) rfl rfl ?_; intro a hf
    refine plan_nil ?_
    refine wpIn_seq ?_
    refine wpIn_seq ?_
    -- region 10 (outright.go:184)
    refine wp_reg ([]) ([_, _, _, _, _, _, _, _, _] ++ rs) [(0, true)] mixed (by kernel_rfl) (hT) ?_; intro w hT
    refine rd hf rfl (yl_assign rfl) rfl rfl ?_; intro a hf
    refine plan_nil ?_
    refine wpIn_block ?_
    have hlen0 := hE.len_le
    have hon0 : ON 0 0 ⟨1 + c % 2000, 0, 0, []⟩ [] [] (List.replicate 100 false) := ON.start ⟨by omega, by omega⟩
    replace hT := hT.bring 1
    replace hT := hT.bring 3
    replace hT := hT.bring 3
    replace hT := hT.bring 8
    replace hT := hT.bring 8
    replace hT := hT.bring 8
    replace hT := hT.bring 8
    replace hT := hT.bring 8
    refine wp_loopS (σ := Nat × Int × BS × List Rec × List (Int × Rec) × List Bool) (fun (i, N, s, xs, m, g) => [(11, .int .i64 (i : Nat)), (10, .int .i64 N)]) [(9, _), (8, _), (7, _), (5, _), (1, _)] (fun (i, N, s, xs, m, g) L => ON N (i : Int) s xs m g ∧ (N ≤ 6 * (i : Int) ∧ N ≤ 6 * (rl.length : Int)) ∧ (rl.length < i → s.L = []) ∧ i ≤ rl.length + 2 ∧ ∃ y0 y1 y2 y3 y4 z0 z1 xm xg, BufR b s [y0, y1, y2, y3, y4] ∧ InR bi xs [z0, z1] ∧ MapL ik encR m1 m xm ∧ Sl encB 4 gv g xg ∧ L = [y0, y1, y2, y3, y4, z0, z1, xm, xg]) (fun (i, N, s, xs, m, g) => rl.length + 2 - i) (0, 0, ⟨1 + c % 2000, 0, 0, []⟩, [], [], List.replicate 100 false) (L := [_, _, _, _, _, _, _, _, _]) (R := [] ++ rs) (hf.sel [11, 10, 9, 8, 7, 5, 1] rfl) (⟨hon0, ⟨Int.le_refl _, by omega⟩, fun _ => rfl, by omega, _, _, _, _, _, _, _, _, _, hB0, hI0, hqm1, hGOa, rfl⟩) hT ?_
    clear hf hT; rintro ⟨i, N, s, xs, m, g⟩ a w L hf ⟨hon, ⟨hNi, hNl⟩, hnil, hi, y0, y1, y2, y3, y4, z0, z1, xm, xg, hB, hIx, hMA, hGO, rfl⟩ hT
    replace hf : Fr _ [(11, .int .i64 (i : Nat)), (10, .int .i64 N), (9, _), (8, _), (7, _), (5, _), (1, _)] _ _ := hf
    have hN72 : N ≤ 72 := by omega
    have hNn := hon.n0
    refine wpIn_seq ?_
    refine wpIn_seq ?_
    -- region 11 (outright.go:184)
    refine wp_reg ([]) ([_, _, _, _, _, _, _, _, _] ++ rs) [(0, true), (1, true), (2, true), (3, true), (4, true)] mixed (by kernel_rfl) (hT) ?_; intro w hT
    refine rd hf rfl (yl_move rfl) rfl rfl ?_; intro a hf
    refine rd hf rfl (yl_move rfl) rfl rfl ?_; intro a hf
    refine rd hf rfl (yl_lenE rfl Try.underlying97 hE.app) rfl rfl ?_; intro a hf
    refine rd hf rfl (yl_add rfl rfl (by unfold inI64; omega)) rfl rfl ?_; intro a hf
    refine rd hf rfl (yl_cmp rfl rfl rfl) rfl rfl ?_; intro a hf
    refine plan_nil ?_
    replace hf := hf.sel [62, 11, 10, 9, 8, 7, 5, 1] (l' := [(62, _), (11, _), (10, _), (9, _), (8, _), (7, _), (5, _), (1, _)]) rfl
    refine wp_ifd hf rfl (fun hlt => ?_) (fun hlt => ?_)
    · -- then
      have hlti : i < rl.length + 2 := by omega
      refine wpIn_skip ?_
      refine wpIn_seq ?_
      refine wpIn_block ?_
      refine wpIn_seq ?_
      -- region 13 (outright.go:185)
      refine wp_reg ([]) ([_, _, _, _, _, _, _, _, _] ++ rs) [(0, true), (1, false), (2, false)] mixed (by kernel_rfl) (hT) ?_; intro w hT
      refine rd hf rfl (yl_build rfl Try.underlying100 zr_100 (places := [(0, 1), (1, 1), (2, 1), (3, 1)]) (by kernel_rfl) (by kernel_rfl) rfl) rfl rfl ?_; intro a hf
      refine ef hf hT rfl rfl (ef_alloc zr_100) rfl (l' := [(65, _), (62, _), (11, _), (10, _), (9, _), (8, _), (7, _), (5, _), (1, _)]) rfl ?_; rintro a w v L ⟨b1, rfl, rfl⟩ hf hT
      refine efS hf hT rfl rfl (ef_storeW rfl rfl sz_100 rfl rfl rfl) ?_; rintro w L rfl hT
      refine plan_nil ?_
      refine wpIn_seq ?_
      refine wpIn_seq ?_
      -- region 14 (outright.go:186)
      refine wp_reg ([]) ([_, _, _, _, _, _, _, _, _, _] ++ rs) [(0, true), (1, true), (2, true), (3, true)] mixed (by kernel_rfl) (hT) ?_; intro w hT
      refine rd hf rfl (yl_move rfl) rfl rfl ?_; intro a hf
      refine rd hf rfl (yl_move rfl) rfl rfl ?_; intro a hf
      refine rd hf rfl (yl_lenE rfl Try.underlying97 hE.app) rfl rfl ?_; intro a hf
      refine rd hf rfl (yl_cmp rfl rfl rfl) rfl rfl ?_; intro a hf
      refine plan_nil ?_
      replace hf := hf.sel [69, 12, 11, 10, 9, 8, 7, 5, 1] (l' := [(69, _), (12, _), (11, _), (10, _), (9, _), (8, _), (7, _), (5, _), (1, _)]) rfl
      have hf0 := hf.sel [12, 11, 10, 9, 8, 7, 5, 1] (l' := [(12, _), (11, _), (10, _), (9, _), (8, _), (7, _), (5, _), (1, _)]) rfl
      refine wp_cut (σ := Rd) (L0 := [_]) (R := [_, _, _, _, _, _, _, _, _] ++ rs) hf0 hT (fun X => []) (fun X L => X.Ok rs ∧ (rl.length ≤ i → X = rd0) ∧ L = [pt b1 (.cells X.cells.toArray 100)]) ?_ ?_
      · clear hf0
        refine wp_ifd hf rfl (fun hil => ?_) (fun hil => ?_)
        · -- then
          have hilt : i < rl.length := by omega
          obtain ⟨X, hXe⟩ : ∃ X, rl[i] = X := ⟨_, rfl⟩
          have hj : rl[i]? = some X := hXe ▸ List.getElem?_eq_getElem hilt
          have hXo : X.Ok rs := hRd X (List.mem_of_getElem? hj)
          -- region 15 (outright.go:187)
          refine wp_reg ([]) ([_, _, _, _, _, _, _, _, _, _] ++ rs) [(0, true), (1, true), (2, true), (3, true), (4, false)] mixed (by kernel_rfl) (hT) ?_; intro w hT
          refine rd hf rfl (yl_move rfl) rfl rfl ?_; intro a hf
          refine rd hf rfl (yl_move rfl) rfl rfl ?_; intro a hf
          refine rd hf rfl (yl_indexE rfl rfl Try.underlying97 sz_100 hE.app (by omega) (by omega)) rfl rfl ?_; intro a hf
          refine rd hf rfl (yl_loadA Try.underlying100 rfl sz_100 rfl (hE.app.row hj) rfl) rfl rfl ?_; intro a hf
          replace hT : Tot _ _ ([_] ++ ([_, _, _, _, _, _, _, _, _] ++ rs)) := hT.bring 0
          refine efS_last hf hT rfl rfl (by kernel_rfl) (ef_storeW rfl rfl sz_100 rfl rfl rfl) ?_; rintro w L rfl hT
          replace hf := hf.sel [12, 11, 10, 9, 8, 7, 5, 1] (l' := [(12, _), (11, _), (10, _), (9, _), (8, _), (7, _), (5, _), (1, _)]) rfl
          exact ⟨X, _, hf.sel [12, 11, 10, 9, 8, 7, 5, 1] rfl, ⟨hXo, fun h => absurd h (by omega), rfl⟩, hT⟩
        · -- else
          refine wpIn_skip ?_
          exact ⟨rd0, _, hf.sel [12, 11, 10, 9, 8, 7, 5, 1] rfl, ⟨rd0_ok _, fun _ => rfl, rfl⟩, hT⟩
      · clear hf0 hf hT; rintro X a w L hf ⟨hXo, hX0, rfl⟩ hT
        replace hf : Fr _ [(12, _), (11, _), (10, _), (9, _), (8, _), (7, _), (5, _), (1, _)] _ _ := hf
        obtain ⟨hby, pcs, hPc, hEp⟩ := hXo
        have hpl := Rd.len hEp
        have hplen := hEp.len_le
        have hpn : rl.length ≤ i → pcs.length = 0 := fun h => by rw [← hpl, hX0 h]; rfl
        refine wpIn_seq ?_
        refine wpIn_seq ?_
        -- region 16 (outright.go:189)
        refine wp_reg ([]) ([_, _, _, _, _, _, _, _, _, _] ++ rs) [(0, true)] mixed (by kernel_rfl) (hT) ?_; intro w hT
        refine rd hf rfl (yl_assign rfl) rfl rfl ?_; intro a hf
        refine plan_nil ?_
        obtain ⟨N0, hN0⟩ : ∃ q, q = N := ⟨_, rfl⟩
        obtain ⟨s0, hs0⟩ : ∃ q, q = s := ⟨_, rfl⟩
        replace hT := hT.bring 9
        replace hT := hT.bring 9
        replace hT := hT.bring 7
        replace hT := hT.bring 7
        replace hT := hT.bring 7
        replace hT := hT.bring 7
        replace hT := hT.bring 7
        have hf0 := hf.sel [12, 11, 9, 8, 7, 5, 1] (l' := [(12, _), (11, _), (9, _), (8, _), (7, _), (5, _), (1, _)]) rfl
        refine wp_cut (σ := Int × BS × List (Int × Rec) × List Bool) (L0 := [_, _, _, _, _, _, _]) (R := [_, _, _] ++ rs) hf0 hT (fun (N, s, m, g) => [(10, .int .i64 N)]) (fun (N, s, m, g) L => ON N (i : Int) s xs m g ∧ (N ≤ 6 * ((i + 1 : Nat) : Int) ∧ N ≤ 6 * (rl.length : Int)) ∧ ∃ y0 y1 y2 y3 y4 xm xg, BufR b s [y0, y1, y2, y3, y4] ∧ MapL ik encR m1 m xm ∧ Sl encB 4 gv g xg ∧ L = [y0, y1, y2, y3, y4, xm, xg]) ?_ ?_
        · clear hf0
          refine wpIn_block ?_
          replace hT := hT.bring 6
          replace hT := hT.bring 6
          replace hT := hT.bring 6
          replace hT := hT.bring 6
          replace hT := hT.bring 6
          replace hT := hT.bring 6
          replace hT := hT.bring 6
          refine wp_loopS (σ := Nat × Int × BS × List (Int × Rec) × List Bool) (fun (k, N, s, m, g) => [(13, .int .i64 (k : Nat)), (10, .int .i64 N)]) [(12, _), (11, _), (9, _), (8, _), (7, _), (5, _), (1, _)] (fun (k, N, s, m, g) L => ON N (i : Int) s xs m g ∧ N ≤ N0 + (k : Int) ∧ k ≤ 6 ∧ k ≤ pcs.length ∧ (k = 0 → s = s0 ∧ N = N0) ∧ ∃ y0 y1 y2 y3 y4 xm xg, BufR b s [y0, y1, y2, y3, y4] ∧ MapL ik encR m1 m xm ∧ Sl encB 4 gv g xg ∧ L = [y0, y1, y2, y3, y4, xm, xg]) (fun (k, N, s, m, g) => 6 - k) (0, N, s, m, g) (L := [_, _, _, _, _, _, _]) (R := [_, _, _] ++ rs) (hf.sel [13, 10, 12, 11, 9, 8, 7, 5, 1] rfl) (⟨hon, by omega, by omega, by omega, fun _ => ⟨hs0.symm, hN0.symm⟩, _, _, _, _, _, _, _, hB, hMA, hGO, rfl⟩) hT ?_
          clear hf hT; rintro ⟨k, N, s, m, g⟩ a w L hf ⟨hon, hNk, hk6, hkp, hk0, y0, y1, y2, y3, y4, xm, xg, hB, hMA, hGO, rfl⟩ hT
          replace hf : Fr _ [(13, .int .i64 (k : Nat)), (10, .int .i64 N), (12, _), (11, _), (9, _), (8, _), (7, _), (5, _), (1, _)] _ _ := hf
          refine wpIn_seq ?_
          refine wpIn_seq ?_
          -- region 17 (outright.go:189)
          refine wp_reg ([]) ([_, _, _, _, _, _, _, _, _, _] ++ rs) [(0, true), (1, true), (2, true), (3, true), (4, true), (5, true), (6, true), (7, true), (8, true)] mixed (by kernel_rfl) (hT) ?_; intro w hT
          refine rd hf rfl (yl_move rfl) rfl rfl ?_; intro a hf
          refine rd hf rfl (yl_faddr Try.underlying100 rfl rfl sz_23 (k := 3) rfl) rfl rfl ?_; intro a hf
          refine rd hf rfl (yl_load Try.underlying23 rfl rfl ⟨_, .tail _ (.tail _ (.tail _ (.tail _ (.tail _ (.tail _ (.tail _ (.head _))))))), _, _, _, pt_self _ _, rfl⟩) rfl rfl ?_; intro a hf
          refine rd hf rfl (yl_lenE rfl Try.underlying23 hEp.app) rfl rfl ?_; intro a hf
          refine rd hf rfl (yl_cmp rfl rfl rfl) rfl rfl ?_; intro a hf
          refine rd hf rfl (yl_move rfl) rfl rfl ?_; intro a hf
          by_cases hg5 : ((k : Nat) : Int) < (pcs.length : Nat)
          · have hgT1 : decide (((k : Nat) : Int) < (pcs.length : Nat)) = true := by simpa using hg5
            refine rdT hf rfl rfl rfl rfl (by first | exact hgT1 | simp [hgT1]) (yl_move rfl) rfl (l' := [(80, _), (79, _), (78, _), (77, _), (76, _), (75, _), (74, _), (13, _), (10, _), (12, _), (11, _), (9, _), (8, _), (7, _), (5, _), (1, _)]) rfl ?_; intro a hf
            refine rdT hf rfl rfl rfl rfl (by first | exact hgT1 | simp [hgT1]) (yl_cmp rfl rfl rfl) rfl (l' := [(81, _), (80, _), (79, _), (78, _), (77, _), (76, _), (75, _), (74, _), (13, _), (10, _), (12, _), (11, _), (9, _), (8, _), (7, _), (5, _), (1, _)]) rfl ?_; intro a hf
            refine rd hf rfl (yl_pickTT rfl hgT1 rfl) rfl rfl ?_; intro a hf
            refine plan_nil ?_
            replace hf := hf.sel [82, 13, 10, 12, 11, 9, 8, 7, 5, 1] (l' := [(82, _), (13, _), (10, _), (12, _), (11, _), (9, _), (8, _), (7, _), (5, _), (1, _)]) rfl
            refine wp_ifd hf rfl (fun hk6b => ?_) (fun hk6b => ?_)
            · -- then
              have hkl : k < pcs.length := by omega
              have hk6l : k < 6 := by omega
              have hii : i < rl.length := by
                apply Nat.lt_of_not_le; intro h; have := hpn h; omega
              have hj : pcs[k]? = some pcs[k] := List.getElem?_eq_getElem hkl
              have hpo := hPc pcs[k] (List.getElem_mem hkl)
              generalize pcs[k] = p at hj hpo
              have hpr := Pc.toR_ok hpo
              have hn0 := hon.n0
              have hyo : ({ p.toR with id := N } : Rec).Ok := by unfold Rec.Ok at hpr ⊢; simp only at hpr ⊢; omega
              have hsl : s.L.length ≤ 100 := by have := hon.len; omega
              refine wpIn_skip ?_
              refine wpIn_seq ?_
              refine wpIn_block ?_
              refine wpIn_seq ?_
              -- region 19 (outright.go:190)
              refine wp_reg ([]) ([_, _, _, _, _, _, _, _, _, _] ++ rs) [(0, true), (1, true), (2, true), (3, true), (4, true), (5, false), (6, false), (7, false)] mixed (by kernel_rfl) (hT) ?_; intro w hT
              refine rd hf rfl (yl_faddr Try.underlying100 rfl rfl sz_23 (k := 3) rfl) rfl rfl ?_; intro a hf
              refine rd hf rfl (yl_load Try.underlying23 rfl rfl ⟨_, .tail _ (.tail _ (.tail _ (.tail _ (.tail _ (.tail _ (.tail _ (.head _))))))), _, _, _, pt_self _ _, rfl⟩) rfl rfl ?_; intro a hf
              refine rd hf rfl (yl_move rfl) rfl rfl ?_; intro a hf
              refine rd hf rfl (yl_indexE rfl rfl Try.underlying23 sz_33 hEp.app (by omega) (by omega)) rfl rfl ?_; intro a hf
              refine rd hf rfl (yl_loadA Try.underlying33 rfl sz_33 rfl (hEp.app.row hj) rfl) rfl rfl ?_; intro a hf
              refine ef_call hf rfl (wanted_none _ _ rfl) rfl rfl (by kernel_rfl) (Spec.frame (L2 := []) (record_spec p hpo hT)) rfl (l' := [(89, _), (88, _), (87, _), (86, _), (85, _), (82, _), (13, _), (10, _), (12, _), (11, _), (9, _), (8, _), (7, _), (5, _), (1, _)]) rfl ?_; rintro a w v L ⟨L1, ⟨rfl, rfl⟩, rfl⟩ hf hT
              refine ef hf hT rfl rfl (ef_alloc zr_31) rfl (l' := [(90, _), (89, _), (88, _), (87, _), (86, _), (85, _), (82, _), (13, _), (10, _), (12, _), (11, _), (9, _), (8, _), (7, _), (5, _), (1, _)]) rfl ?_; rintro a w v L ⟨b2, rfl, rfl⟩ hf hT
              refine efS hf hT rfl rfl (ef_storeW rfl rfl sz_31 rfl rfl rfl) ?_; rintro w L rfl hT
              refine plan_nil ?_
              replace hf := hf.sel [14, 13, 10, 12, 11, 9, 8, 7, 5, 1] (l' := [(14, _), (13, _), (10, _), (12, _), (11, _), (9, _), (8, _), (7, _), (5, _), (1, _)]) rfl
              refine wpIn_seq ?_
              -- region 20 (outright.go:191)
              refine wp_reg ([]) ([_, _, _, _, _, _, _, _, _, _, _] ++ rs) [(0, true), (1, true), (2, false)] mixed (by kernel_rfl) (hT) ?_; intro w hT
              refine rd hf rfl (yl_move rfl) rfl rfl ?_; intro a hf
              refine rd hf rfl (yl_faddr Try.underlying31 rfl rfl sz_2 (k := 0) rfl) rfl rfl ?_; intro a hf
              replace hT : Tot _ _ ([_] ++ ([_, _, _, _, _, _, _, _, _, _] ++ rs)) := hT.bring 0
              refine efS_last hf hT rfl rfl (by kernel_rfl) (ef_store rfl rfl sz_2 rfl rfl) ?_; rintro w L rfl hT
              refine wpIn_seq ?_
              -- region 21 (outright.go:192)
              refine wp_reg ([]) ([_, _, _, _, _, _, _, _, _, _, _] ++ rs) [(0, true), (1, true), (2, true)] mixed (by kernel_rfl) (hT) ?_; intro w hT
              refine rd hf rfl (yl_move rfl) rfl rfl ?_; intro a hf
              refine rd hf rfl (yl_add rfl rfl (by unfold inI64; omega)) rfl rfl ?_; intro a hf
              refine rw_ hf rfl (yl_assign rfl) rfl (l' := [(10, _), (94, _), (93, _), (92, _), (91, _), (14, _), (13, _), (12, _), (11, _), (9, _), (8, _), (7, _), (5, _), (1, _)]) rfl ?_; intro a hf
              refine plan_nil ?_
              replace hf := hf.sel [10, 14, 13, 12, 11, 9, 8, 7, 5, 1] (l' := [(10, _), (14, _), (13, _), (12, _), (11, _), (9, _), (8, _), (7, _), (5, _), (1, _)]) rfl
              refine wpIn_seq ?_
              -- region 22 (outright.go:193)
              refine wp_reg ([_, _, _, _, _]) ([_, _, _, _, _, _] ++ rs) [(0, true), (1, true), (2, false), (3, true), (4, true), (5, true), (6, true), (7, true)] mixed (by kernel_rfl) (hT.brings [5, 5, 5, 5, 5]) ?_; intro w hT
              refine rd hf rfl (yl_move rfl) rfl rfl ?_; intro a hf
              refine rd hf rfl (yl_loadB Try.underlying31 rfl sz_31 (vs := (Rec.cells { p.toR with id := N })) (.head _) rfl (pt_self _ _) rfl rfl) rfl rfl ?_; intro a hf
              replace hT : Tot _ _ ([_, _, _, _, _] ++ ([_, _, _, _, _, _] ++ rs)) := hT.bring 4
              replace hT : Tot _ _ ([_, _, _, _, _] ++ ([_, _, _, _, _, _] ++ rs)) := hT.bring 4
              replace hT : Tot _ _ ([_, _, _, _, _] ++ ([_, _, _, _, _, _] ++ rs)) := hT.bring 4
              replace hT : Tot _ _ ([_, _, _, _, _] ++ ([_, _, _, _, _, _] ++ rs)) := hT.bring 4
              replace hT : Tot _ _ ([_, _, _, _, _] ++ ([_, _, _, _, _, _] ++ rs)) := hT.bring 4
              refine ef_call hf rfl (wanted_none _ _ rfl) rfl rfl (by kernel_rfl) (Spec.frame (L2 := []) (Put5_spec b s _ hB hon.inv (by omega) { p.toR with id := N } hT)) rfl (l' := [(97, _), (96, _), (10, _), (14, _), (13, _), (12, _), (11, _), (9, _), (8, _), (7, _), (5, _), (1, _)]) rfl ?_; rintro a w v L ⟨L1, ⟨s', d, er, q, XQ, Lp, rfl, hD, hBp, rfl, hR⟩, rfl⟩ hf hT
              obtain ⟨u0, u1, u2, u3, u4, rfl⟩ := hBp.five
              have hee := hon.putE hyo rfl hR
              refine rd hf rfl (yl_move rfl) rfl rfl ?_; intro a hf
              refine rd hf rfl (yl_extract rfl rfl) rfl rfl ?_; intro a hf
              refine rd hf rfl (yl_extract rfl rfl) rfl rfl ?_; intro a hf
              refine rd hf rfl (yl_assign rfl) rfl rfl ?_; intro a hf
              refine rd hf rfl (yl_assign rfl) rfl rfl ?_; intro a hf
              refine plan_nil ?_
              replace hf := hf.sel [16, 15, 10, 14, 13, 12, 11, 9, 8, 7, 5, 1] (l' := [(16, _), (15, _), (10, _), (14, _), (13, _), (12, _), (11, _), (9, _), (8, _), (7, _), (5, _), (1, _)]) rfl
              refine wpIn_seq ?_
              refine wpIn_seq ?_
              -- region 23 (outright.go:194)
              refine wp_reg ([]) ([_, _, _, _, _, _, _, _, _, _, _, _] ++ rs) [(0, true), (1, true)] mixed (by kernel_rfl) (hT) ?_; intro w hT
              refine rd hf rfl (yl_move rfl) rfl rfl ?_; intro a hf
              refine rd hf rfl (yl_cmp rfl rfl rfl) rfl rfl ?_; intro a hf
              refine plan_nil ?_
              refine wp_ifd hf rfl (fun hes => ?_) (fun hes => ?_)
              · -- then
                refine wpIn_exit ?_
                refine then_exit ?_
                refine inBlock_hit ?_
                -- region 18 (outright.go:189)
                refine wp_reg ([]) ([_, _, _, _, _, _, _, _, _, _, _, _] ++ rs) [(0, true), (1, true), (2, true)] mixed (by kernel_rfl) (hT) ?_; intro w hT
                refine rd hf rfl (yl_move rfl) rfl rfl ?_; intro a hf
                refine rd hf rfl (yl_add rfl rfl (by unfold inI64; omega)) rfl rfl ?_; intro a hf
                refine rw_ hf rfl (yl_assign rfl) rfl (l' := [(13, _), (84, _), (83, _), (102, _), (101, _), (16, _), (15, _), (10, _), (14, _), (12, _), (11, _), (9, _), (8, _), (7, _), (5, _), (1, _)]) rfl ?_; intro a hf
                refine plan_nil ?_
                replace hf := hf.sel [13, 10, 12, 11, 9, 8, 7, 5, 1] (l' := [(13, _), (10, _), (12, _), (11, _), (9, _), (8, _), (7, _), (5, _), (1, _)]) rfl
                exact ⟨(k + 1, N + 1, s, m, g), _, hf.sel [13, 10, 12, 11, 9, 8, 7, 5, 1] rfl, ⟨by obtain ⟨_, _, h3⟩ := hon.full hyo rfl (hes ▸ hR); exact h3, by omega, by omega, by omega, fun h => absurd h (by omega), _, _, _, _, _, _, _, (by rw [← (hon.full hyo rfl (hes ▸ hR)).1]; exact hBp), hMA, hGO, rfl⟩, (hT.brings [6, 1]).tail.tail, by first | omega | (dsimp only; omega)⟩
              · -- else
                obtain rfl : er = 0 := hee.resolve_left hes
                have hput := hon.put (by omega) hyo rfl hR
                have hdl := (hD.els (R := [_]) (.head _)).len_le
                refine wpIn_skip ?_
                refine wpIn_seq ?_
                refine wpIn_seq ?_
                -- region 24 (outright.go:197)
                refine wp_reg ([]) ([_, _, _, _, _, _, _, _, _, _, _, _] ++ rs) [(0, true), (1, true)] mixed (by kernel_rfl) (hT) ?_; intro w hT
                refine rd hf rfl (yl_move rfl) rfl rfl ?_; intro a hf
                refine rd hf rfl (yl_cmp rfl rfl rfl) rfl rfl ?_; intro a hf
                refine plan_nil ?_
                replace hf := hf.sel [104, 15, 10, 14, 13, 12, 11, 9, 8, 7, 5, 1] (l' := [(104, _), (15, _), (10, _), (14, _), (13, _), (12, _), (11, _), (9, _), (8, _), (7, _), (5, _), (1, _)]) rfl
                refine wp_ifd hf rfl (fun hne0 => ?_) (fun hne0 => ?_)
                · -- then
                  exact absurd rfl hne0
                · -- else
                  refine wpIn_skip ?_
                  refine wpIn_seq ?_
                  -- region 26 (outright.go:200)
                  refine wp_reg ([]) ([_, _, _, _, _, _, _, _, _, _, _, _] ++ rs) [(0, true), (1, true), (2, true), (3, true), (4, false)] mixed (by kernel_rfl) (hT) ?_; intro w hT
                  refine rd hf rfl (yl_move rfl) rfl rfl ?_; intro a hf
                  refine rd hf rfl (yl_faddr Try.underlying31 rfl rfl sz_2 (k := 0) rfl) rfl rfl ?_; intro a hf
                  refine rd hf rfl (yl_load Try.underlying2 rfl rfl ⟨_, .tail _ (.tail _ (.tail _ (.tail _ (.tail _ (.tail _ (.head _)))))), _, _, _, pt_self _ _, rfl⟩) rfl rfl ?_; intro a hf
                  refine rd hf rfl (yl_loadB Try.underlying31 rfl sz_31 (vs := (Rec.cells { p.toR with id := N })) (.tail _ (.tail _ (.tail _ (.tail _ (.tail _ (.tail _ (.head _))))))) rfl (pt_self _ _) rfl rfl) rfl rfl ?_; intro a hf
                  replace hT : Tot _ _ ([_] ++ ([_, _, _, _, _, _, _, _, _, _, _] ++ rs)) := hT.bring 7
                  refine efS_last hf hT rfl rfl (by kernel_rfl) (ef_mapUpdate kI Try.underlying29 rfl rfl rfl hMA) ?_; rintro w L ⟨M1, hM1, rfl⟩ hT
                  replace hf := hf.sel [15, 10, 13, 12, 11, 9, 8, 7, 5, 1] (l' := [(15, _), (10, _), (13, _), (12, _), (11, _), (9, _), (8, _), (7, _), (5, _), (1, _)]) rfl
                  refine wpIn_seq ?_
                  -- region 27 (outright.go:201)
                  refine wp_reg ([]) ([_, _, _, _, _, _, _, _, _, _, _, _] ++ rs) [(0, true)] mixed (by kernel_rfl) (hT) ?_; intro w hT
                  refine rd hf rfl (yl_assign rfl) rfl rfl ?_; intro a hf
                  refine plan_nil ?_
                  refine wpIn_block ?_
                  replace hT := hT.bring 8
                  refine wp_loopS (σ := Nat × List Bool) (fun (j, g') => [(17, .int .i64 (j : Nat))]) [(15, _), (10, _), (13, _), (12, _), (11, _), (9, _), (8, _), (7, _), (5, _), (1, _)] (fun (j, g') L => g'.length = 100 ∧ (∀ u : Nat, g[u]? = some true → g'[u]? = some true) ∧ (∀ u (hu : u < d.length), u < j → g'[d[u].toNat]? = some true) ∧ j ≤ d.length ∧ ∃ xg, Sl encB 4 gv g' xg ∧ L = [xg]) (fun (j, g') => d.length - j) (0, g) (L := [_]) (R := [_, _, _, _, _, _, _, _, _, _, _] ++ rs) (hf.sel [17, 15, 10, 13, 12, 11, 9, 8, 7, 5, 1] rfl) (⟨hon.gl, fun u h => h, fun u hu h => absurd h (Nat.not_lt_zero _), Nat.zero_le _, _, hGO, rfl⟩) hT ?_
                  clear hf hT; rintro ⟨j, g'⟩ a w L hf ⟨hgl, hgm, hgd, hjd, xg', hGN, rfl⟩ hT
                  replace hf : Fr _ [(17, .int .i64 (j : Nat)), (15, _), (10, _), (13, _), (12, _), (11, _), (9, _), (8, _), (7, _), (5, _), (1, _)] _ _ := hf
                  refine wpIn_seq ?_
                  refine wpIn_seq ?_
                  -- region 28 (outright.go:201)
                  refine wp_reg ([]) ([_, _, _, _, _, _, _, _, _, _, _, _] ++ rs) [(0, true), (1, true), (2, true), (3, true)] mixed (by kernel_rfl) (hT) ?_; intro w hT
                  refine rd hf rfl (yl_move rfl) rfl rfl ?_; intro a hf
                  refine rd hf rfl (yl_move rfl) rfl rfl ?_; intro a hf
                  refine rd hf rfl (yl_lenE rfl Try.underlying37 (hD.els (.tail _ (.tail _ (.head _))))) rfl rfl ?_; intro a hf
                  refine rd hf rfl (yl_cmp rfl rfl rfl) rfl rfl ?_; intro a hf
                  refine plan_nil ?_
                  replace hf := hf.sel [112, 17, 15, 10, 13, 12, 11, 9, 8, 7, 5, 1] (l' := [(112, _), (17, _), (15, _), (10, _), (13, _), (12, _), (11, _), (9, _), (8, _), (7, _), (5, _), (1, _)]) rfl
                  refine wp_ifd hf rfl (fun hltj => ?_) (fun hltj => ?_)
                  · -- then
                    have hjl : j < d.length := by omega
                    obtain ⟨dj, hdj⟩ : ∃ q, d[j] = q := ⟨_, rfl⟩
                    have hj : d[j]? = some dj := hdj ▸ List.getElem?_eq_getElem hjl
                    have hdr := hput.1 dj (List.mem_of_getElem? hj)
                    obtain ⟨b0, hgj⟩ := get_lt hgl hdr.1 (by omega)
                    refine wpIn_skip ?_
                    refine wpIn_seq ?_
                    refine wpIn_block ?_
                    refine wpIn_seq ?_
                    refine wpIn_seq ?_
                    -- region 30 (outright.go:202)
                    refine wp_reg ([]) ([_, _, _, _, _, _, _, _, _, _, _, _] ++ rs) [(0, true), (1, true), (2, true), (3, true), (4, true), (5, true), (6, true), (7, true), (8, true), (9, true), (10, true), (11, true), (12, true)] mixed (by kernel_rfl) (hT) ?_; intro w hT
                    refine rd hf rfl (yl_move rfl) rfl rfl ?_; intro a hf
                    refine rd hf rfl (yl_move rfl) rfl rfl ?_; intro a hf
                    refine rd hf rfl (yl_indexE rfl rfl Try.underlying37 sz_2 (hD.els (.tail _ (.tail _ (.head _)))) (by omega) (by omega)) rfl rfl ?_; intro a hf
                    refine rd hf rfl (yl_load Try.underlying2 rfl rfl ((hD.els (.tail _ (.tail _ (.head _)))).cell hj (f := 0) rfl)) rfl rfl ?_; intro a hf
                    refine rd hf rfl (yl_cmp rfl rfl rfl) rfl rfl ?_; intro a hf
                    refine rd hf rfl (yl_move rfl) rfl rfl ?_; intro a hf
                    refine rdT hf rfl rfl rfl rfl (by first | exact (decide_eq_false (by omega)) | simp [(decide_eq_false (by omega))]) (yl_move rfl) rfl (l' := [(121, _), (120, _), (119, _), (118, _), (117, _), (116, _), (115, _), (112, _), (17, _), (15, _), (10, _), (13, _), (12, _), (11, _), (9, _), (8, _), (7, _), (5, _), (1, _)]) rfl ?_; intro a hf
                    refine rdT hf rfl rfl rfl rfl (by first | exact (decide_eq_false (by omega)) | simp [(decide_eq_false (by omega))]) (yl_move rfl) rfl (l' := [(122, _), (121, _), (120, _), (119, _), (118, _), (117, _), (116, _), (115, _), (112, _), (17, _), (15, _), (10, _), (13, _), (12, _), (11, _), (9, _), (8, _), (7, _), (5, _), (1, _)]) rfl ?_; intro a hf
                    refine rdT hf rfl rfl rfl rfl (by first | exact (decide_eq_false (by omega)) | simp [(decide_eq_false (by omega))]) (yl_indexE rfl rfl Try.underlying37 sz_2 (hD.els (.tail _ (.tail _ (.head _)))) (by omega) (by omega)) rfl (l' := [(123, _), (122, _), (121, _), (120, _), (119, _), (118, _), (117, _), (116, _), (115, _), (112, _), (17, _), (15, _), (10, _), (13, _), (12, _), (11, _), (9, _), (8, _), (7, _), (5, _), (1, _)]) rfl ?_; intro a hf
                    refine rdT hf rfl rfl rfl rfl (by first | exact (decide_eq_false (by omega)) | simp [(decide_eq_false (by omega))]) (yl_load Try.underlying2 rfl rfl ((hD.els (.tail _ (.tail _ (.head _)))).cell hj (f := 0) rfl)) rfl (l' := [(124, _), (123, _), (122, _), (121, _), (120, _), (119, _), (118, _), (117, _), (116, _), (115, _), (112, _), (17, _), (15, _), (10, _), (13, _), (12, _), (11, _), (9, _), (8, _), (7, _), (5, _), (1, _)]) rfl ?_; intro a hf
                    refine rdT hf rfl rfl rfl rfl (by first | exact (decide_eq_false (by omega)) | simp [(decide_eq_false (by omega))]) (yl_move rfl) rfl (l' := [(125, _), (124, _), (123, _), (122, _), (121, _), (120, _), (119, _), (118, _), (117, _), (116, _), (115, _), (112, _), (17, _), (15, _), (10, _), (13, _), (12, _), (11, _), (9, _), (8, _), (7, _), (5, _), (1, _)]) rfl ?_; intro a hf
                    refine rdT hf rfl rfl rfl rfl (by first | exact (decide_eq_false (by omega)) | simp [(decide_eq_false (by omega))]) (yl_cmp rfl rfl rfl) rfl (l' := [(126, _), (125, _), (124, _), (123, _), (122, _), (121, _), (120, _), (119, _), (118, _), (117, _), (116, _), (115, _), (112, _), (17, _), (15, _), (10, _), (13, _), (12, _), (11, _), (9, _), (8, _), (7, _), (5, _), (1, _)]) rfl ?_; intro a hf
                    refine rd hf rfl (yl_pickFF rfl (decide_eq_false (by omega)) rfl) rfl rfl ?_; intro a hf
                    refine plan_nil ?_
                    replace hf := hf.sel [127, 17, 15, 10, 13, 12, 11, 9, 8, 7, 5, 1] (l' := [(127, _), (17, _), (15, _), (10, _), (13, _), (12, _), (11, _), (9, _), (8, _), (7, _), (5, _), (1, _)]) rfl
                    refine wp_ifd hf rfl (fun hge => ?_) (fun hge => ?_)
                    · -- then
                      exact absurd hge (by omega)
                    · -- else
                      refine wpIn_skip ?_
                      -- region 32 (outright.go:205)
                      refine wp_reg ([_]) ([_, _, _, _, _, _, _, _, _, _, _] ++ rs) [(0, false), (1, false), (2, false), (3, false), (4, false), (5, false), (6, false)] mixed (by kernel_rfl) (hT.brings [0]) ?_; intro w hT
                      refine ef hf hT rfl rfl (ef_read (yl_move rfl)) rfl (l' := [(127, _), (17, _), (15, _), (10, _), (13, _), (12, _), (11, _), (9, _), (8, _), (7, _), (5, _), (1, _)]) rfl ?_; rintro a w v L ⟨rfl, rfl⟩ hf hT
                      refine ef hf hT rfl rfl (ef_read (yl_move rfl)) rfl (l' := [(128, _), (127, _), (17, _), (15, _), (10, _), (13, _), (12, _), (11, _), (9, _), (8, _), (7, _), (5, _), (1, _)]) rfl ?_; rintro a w v L ⟨rfl, rfl⟩ hf hT
                      refine ef hf hT rfl rfl (ef_read (yl_move rfl)) rfl (l' := [(129, _), (128, _), (127, _), (17, _), (15, _), (10, _), (13, _), (12, _), (11, _), (9, _), (8, _), (7, _), (5, _), (1, _)]) rfl ?_; rintro a w v L ⟨rfl, rfl⟩ hf hT
                      refine ef hf hT rfl rfl (ef_read (yl_indexE rfl rfl Try.underlying37 sz_2 (hD.els (.tail _ (.tail _ (.head _)))) (by omega) (by omega))) rfl (l' := [(130, _), (129, _), (128, _), (127, _), (17, _), (15, _), (10, _), (13, _), (12, _), (11, _), (9, _), (8, _), (7, _), (5, _), (1, _)]) rfl ?_; rintro a w v L ⟨rfl, rfl⟩ hf hT
                      refine ef hf hT rfl rfl (ef_read (yl_load Try.underlying2 rfl rfl ((hD.els (.tail _ (.tail _ (.head _)))).cell hj (f := 0) rfl))) rfl (l' := [(131, _), (130, _), (129, _), (128, _), (127, _), (17, _), (15, _), (10, _), (13, _), (12, _), (11, _), (9, _), (8, _), (7, _), (5, _), (1, _)]) rfl ?_; rintro a w v L ⟨rfl, rfl⟩ hf hT
                      refine ef hf hT rfl rfl (ef_read (yl_indexE rfl rfl Try.underlying98 sz_4 (hGN.els (.head _)) (by omega) (by omega))) rfl (l' := [(132, _), (131, _), (130, _), (129, _), (128, _), (127, _), (17, _), (15, _), (10, _), (13, _), (12, _), (11, _), (9, _), (8, _), (7, _), (5, _), (1, _)]) rfl ?_; rintro a w v L ⟨rfl, rfl⟩ hf hT
                      refine efS hf hT rfl rfl (ef_storeEl (E := encB) (j := dj.toNat) (f := 0) (a' := true) rfl rfl sz_4 rfl hGN (hgj) (by decide) rfl) ?_; rintro w L ⟨X1, hS1, rfl⟩ hT
                      refine plan_nil ?_
                      replace hf := hf.sel [17, 15, 10, 13, 12, 11, 9, 8, 7, 5, 1] (l' := [(17, _), (15, _), (10, _), (13, _), (12, _), (11, _), (9, _), (8, _), (7, _), (5, _), (1, _)]) rfl
                      -- region 29 (outright.go:201)
                      refine wp_reg ([]) ([_, _, _, _, _, _, _, _, _, _, _, _] ++ rs) [(0, true), (1, true), (2, true)] mixed (by kernel_rfl) (hT) ?_; intro w hT
                      refine rd hf rfl (yl_move rfl) rfl rfl ?_; intro a hf
                      refine rd hf rfl (yl_add rfl rfl (by unfold inI64; omega)) rfl rfl ?_; intro a hf
                      refine rw_ hf rfl (yl_assign rfl) rfl (l' := [(17, _), (114, _), (113, _), (15, _), (10, _), (13, _), (12, _), (11, _), (9, _), (8, _), (7, _), (5, _), (1, _)]) rfl ?_; intro a hf
                      refine plan_nil ?_
                      exact ⟨(j + 1, g'.set dj.toNat true), _, hf.sel [17, 15, 10, 13, 12, 11, 9, 8, 7, 5, 1] rfl, ⟨by rw [List.length_set]; exact hgl, fun u h => (set_true (by omega) u).2 (.inr (hgm u h)), fun u hu huj => (set_true (by omega) _).2 (by by_cases he : u = j; subst he; exact .inl (by rw [hdj]); exact .inr (hgd u hu (by omega))), by omega, _, hS1, rfl⟩, hT, by first | omega | (dsimp only; omega)⟩
                  · -- else
                    obtain rfl : j = d.length := by omega
                    skip
                    refine wpIn_exit ?_
                    refine then_exit ?_
                    refine then_exit ?_
                    refine inBlock_hit ?_
                    -- region 18 (outright.go:189)
                    refine wp_reg ([]) ([_, _, _, _, _, _, _, _, _, _, _, _] ++ rs) [(0, true), (1, true), (2, true)] mixed (by kernel_rfl) (hT) ?_; intro w hT
                    refine rd hf rfl (yl_move rfl) rfl rfl ?_; intro a hf
                    refine rd hf rfl (yl_add rfl rfl (by unfold inI64; omega)) rfl rfl ?_; intro a hf
                    refine rw_ hf rfl (yl_assign rfl) rfl (l' := [(13, _), (84, _), (83, _), (112, _), (17, _), (15, _), (10, _), (12, _), (11, _), (9, _), (8, _), (7, _), (5, _), (1, _)]) rfl ?_; intro a hf
                    refine plan_nil ?_
                    replace hf := hf.sel [13, 10, 12, 11, 9, 8, 7, 5, 1] (l' := [(13, _), (10, _), (12, _), (11, _), (9, _), (8, _), (7, _), (5, _), (1, _)]) rfl
                    exact ⟨(k + 1, N + 1, s', upd m N { p.toR with id := N }, g'), _, hf.sel [13, 10, 12, 11, 9, 8, 7, 5, 1] rfl, ⟨hput.2 g' hgl hgm (fun q hq => by obtain ⟨u, hu, rfl⟩ := List.getElem_of_mem hq; exact hgd u hu hu), by omega, by omega, by omega, fun h => absurd h (by omega), _, _, _, _, _, _, _, hBp, hM1, hGN, rfl⟩, ((hT.brings [8, 3]).tail.tail.brings [9, 9, 9, 3, 4, 9, 9, 9, 9, 9]), by first | omega | (dsimp only; omega)⟩
            · -- else
              refine wpIn_exit ?_
              refine then_exit ?_
              refine then_exit ?_
              refine inBlock_hit ?_
              exact ⟨(N, s, m, g), _, hf.sel [10, 12, 11, 9, 8, 7, 5, 1] rfl, ⟨hon, ⟨by omega, (if h : i < rl.length then by omega else by have := hk0 (by have := hpn (by omega); omega); omega)⟩, _, _, _, _, _, _, _, hB, hMA, hGO, rfl⟩, hT⟩
          · have hgT1 : decide (((k : Nat) : Int) < (pcs.length : Nat)) = false := by simpa using hg5
            refine rdF hf rfl rfl rfl rfl (by first | exact hgT1 | simp [hgT1]) rfl (l' := [(80, _), (79, _), (78, _), (77, _), (76, _), (75, _), (74, _), (13, _), (10, _), (12, _), (11, _), (9, _), (8, _), (7, _), (5, _), (1, _)]) rfl ?_; intro a hf
            refine rdF hf rfl rfl rfl rfl (by first | exact hgT1 | simp [hgT1]) rfl (l' := [(81, _), (80, _), (79, _), (78, _), (77, _), (76, _), (75, _), (74, _), (13, _), (10, _), (12, _), (11, _), (9, _), (8, _), (7, _), (5, _), (1, _)]) rfl ?_; intro a hf
            refine rd hf rfl (yl_pickFF rfl hgT1 rfl) rfl rfl ?_; intro a hf
            refine plan_nil ?_
            replace hf := hf.sel [82, 13, 10, 12, 11, 9, 8, 7, 5, 1] (l' := [(82, _), (13, _), (10, _), (12, _), (11, _), (9, _), (8, _), (7, _), (5, _), (1, _)]) rfl
            refine wp_ifFF hf rfl (rfl) ?_
            refine wpIn_exit ?_
            refine then_exit ?_
            refine then_exit ?_
            refine inBlock_hit ?_
            exact ⟨(N, s, m, g), _, hf.sel [10, 12, 11, 9, 8, 7, 5, 1] rfl, ⟨hon, ⟨by omega, (if h : i < rl.length then by omega else by have := hk0 (by have := hpn (by omega); omega); omega)⟩, _, _, _, _, _, _, _, hB, hMA, hGO, rfl⟩, hT⟩
        · clear hf0 hf hT; rintro ⟨N, s, m, g⟩ a w L hf ⟨hon, hNb, y0, y1, y2, y3, y4, xm, xg, hB, hMA, hGO, rfl⟩ hT
          replace hf : Fr _ [(10, .int .i64 N), (12, _), (11, _), (9, _), (8, _), (7, _), (5, _), (1, _)] _ _ := hf
          have hN72 : N ≤ 72 := by omega
          have hNn := hon.n0
          refine wpIn_seq ?_
          -- region 33 (outright.go:208)
          refine wp_reg ([]) ([_, _, _, _, _, _, _, _, _, _] ++ rs) [(0, true), (1, true), (2, true), (3, true)] mixed (by kernel_rfl) (hT) ?_; intro w hT
          refine rd hf rfl (yl_faddr Try.underlying100 rfl rfl sz_22 (k := 0) rfl) rfl rfl ?_; intro a hf
          refine rd hf rfl (yl_load Try.underlying22 rfl rfl ⟨_, .tail _ (.tail _ (.tail _ (.tail _ (.tail _ (.tail _ (.tail _ (.head _))))))), _, _, _, pt_self _ _, rfl⟩) rfl rfl ?_; intro a hf
          refine rd hf rfl (yl_conv64 rfl Try.underlying22 Try.underlying2 (by unfold inI64; omega)) rfl rfl ?_; intro a hf
          refine rd hf rfl (yl_assign rfl) rfl rfl ?_; intro a hf
          refine plan_nil ?_
          replace hf := hf.sel [18, 10, 12, 11, 9, 8, 7, 5, 1] (l' := [(18, _), (10, _), (12, _), (11, _), (9, _), (8, _), (7, _), (5, _), (1, _)]) rfl
          refine wpIn_seq ?_
          refine wpIn_seq ?_
          -- region 34 (outright.go:209)
          refine wp_reg ([]) ([_, _, _, _, _, _, _, _, _, _] ++ rs) [(0, true), (1, true), (2, true), (3, true)] mixed (by kernel_rfl) (hT) ?_; intro w hT
          refine rd hf rfl (yl_move rfl) rfl rfl ?_; intro a hf
          refine rd hf rfl (yl_move rfl) rfl rfl ?_; intro a hf
          refine rd hf rfl (yl_lenE rfl Try.underlying97 hE.app) rfl rfl ?_; intro a hf
          refine rd hf rfl (yl_cmp rfl rfl rfl) rfl rfl ?_; intro a hf
          refine plan_nil ?_
          replace hf := hf.sel [140, 18, 10, 12, 11, 9, 8, 7, 5, 1] (l' := [(140, _), (18, _), (10, _), (12, _), (11, _), (9, _), (8, _), (7, _), (5, _), (1, _)]) rfl
          have hf0 := hf.sel [10, 12, 11, 9, 8, 7, 5, 1] (l' := [(10, _), (12, _), (11, _), (9, _), (8, _), (7, _), (5, _), (1, _)]) rfl
          refine wp_cut (σ := Int) (L0 := []) (R := [_, _, _, _, _, _, _, _, _, _] ++ rs) hf0 hT (fun room => [(18, .int .i64 room)]) (fun room L => (0 ≤ room ∧ room ≤ 16777216) ∧ (rl.length ≤ i → room = 16777216) ∧ L = []) ?_ ?_
          · clear hf0
            refine wp_ifd hf rfl (fun hbig => ?_) (fun hbig => ?_)
            · -- then
              -- region 35 (outright.go:210)
              refine wp_reg ([]) ([_, _, _, _, _, _, _, _, _, _] ++ rs) [(0, true)] mixed (by kernel_rfl) (hT) ?_; intro w hT
              refine rw_ hf rfl (yl_assign rfl) rfl (l' := [(18, _), (140, _), (10, _), (12, _), (11, _), (9, _), (8, _), (7, _), (5, _), (1, _)]) rfl ?_; intro a hf
              refine plan_nil ?_
              exact ⟨16777216, _, hf.sel [18, 10, 12, 11, 9, 8, 7, 5, 1] rfl, ⟨by decide, fun _ => rfl, rfl⟩, hT⟩
            · -- else
              refine wpIn_skip ?_
              exact ⟨X.by_, _, hf.sel [18, 10, 12, 11, 9, 8, 7, 5, 1] rfl, ⟨by omega, fun h => absurd h (by omega), rfl⟩, hT⟩
          · clear hf0 hf hT; rintro room a w L hf ⟨hroom, hroom2, rfl⟩ hT
            replace hf : Fr _ [(18, .int .i64 room), (10, _), (12, _), (11, _), (9, _), (8, _), (7, _), (5, _), (1, _)] _ _ := hf
            refine wpIn_seq ?_
            -- region 36 (outright.go:212)
            refine wp_reg ([_, _, _, _, _]) ([_, _, _, _, _] ++ rs) [(0, true), (1, true), (2, true), (3, false), (4, true), (5, true), (6, true), (7, true), (8, true)] mixed (by kernel_rfl) (hT.brings [4, 4, 4, 4, 4]) ?_; intro w hT
            refine rd hf rfl (yl_move rfl) rfl rfl ?_; intro a hf
            refine rd hf rfl (yl_move rfl) rfl rfl ?_; intro a hf
            refine rd hf rfl (yl_move rfl) rfl rfl ?_; intro a hf
            replace hT : Tot _ _ ([_, _, _, _, _] ++ ([_, _, _, _, _] ++ rs)) := hT.bring 4
            replace hT : Tot _ _ ([_, _, _, _, _] ++ ([_, _, _, _, _] ++ rs)) := hT.bring 4
            replace hT : Tot _ _ ([_, _, _, _, _] ++ ([_, _, _, _, _] ++ rs)) := hT.bring 4
            replace hT : Tot _ _ ([_, _, _, _, _] ++ ([_, _, _, _, _] ++ rs)) := hT.bring 4
            replace hT : Tot _ _ ([_, _, _, _, _] ++ ([_, _, _, _, _] ++ rs)) := hT.bring 4
            refine ef_call hf rfl (wanted_none _ _ rfl) rfl rfl (by kernel_rfl) (Spec.frame (L2 := []) (Burst5_spec b s _ hB hon.inv (by have := hon.len; omega) hon.t0 room (i : Int) 0 hT)) rfl (l' := [(144, _), (143, _), (142, _), (18, _), (10, _), (12, _), (11, _), (9, _), (8, _), (7, _), (5, _), (1, _)]) rfl ?_; rintro a w v L ⟨L1, ⟨s', d, er, q, XQ, Lp, rfl, hD, hBp, rfl, hR⟩, rfl⟩ hf hT
            obtain ⟨-, rfl, hs', hd⟩ := hR.resolve_left (fun h => by have h1 := h.1; have := hon.tm; unfold Oor at h1; omega)
            obtain ⟨u0, u1, u2, u3, u4, rfl⟩ := hBp.five
            have hon1 : ON N (i : Int) s' xs m g := by rw [hs']; exact hon.burst (by omega) room
            have hdl := (hD.els (R := [_]) (.head _)).len_le
            have hdm : ∀ q ∈ d, ∃ r, assoc m q = some r ∧ r.id = q ∧ r.Ok := fun q hq => hon.sent (hd ▸ hq)
            refine rd hf rfl (yl_move rfl) rfl rfl ?_; intro a hf
            refine rd hf rfl (yl_extract rfl rfl) rfl rfl ?_; intro a hf
            refine rd hf rfl (yl_extract rfl rfl) rfl rfl ?_; intro a hf
            refine rd hf rfl (yl_assign rfl) rfl rfl ?_; intro a hf
            refine rd hf rfl (yl_assign rfl) rfl rfl ?_; intro a hf
            refine plan_nil ?_
            replace hf := hf.sel [20, 19, 10, 12, 11, 9, 8, 7, 5, 1] (l' := [(20, _), (19, _), (10, _), (12, _), (11, _), (9, _), (8, _), (7, _), (5, _), (1, _)]) rfl
            refine wpIn_seq ?_
            refine wpIn_seq ?_
            -- region 37 (outright.go:213)
            refine wp_reg ([]) ([_, _, _, _, _, _, _, _, _, _, _] ++ rs) [(0, true), (1, true)] mixed (by kernel_rfl) (hT) ?_; intro w hT
            refine rd hf rfl (yl_move rfl) rfl rfl ?_; intro a hf
            refine rd hf rfl (yl_cmp rfl rfl rfl) rfl rfl ?_; intro a hf
            refine plan_nil ?_
            refine wp_ifd hf rfl (fun hne0 => ?_) (fun hne0 => ?_)
            · -- then
              exact absurd rfl hne0
            · -- else
              refine wpIn_skip ?_
              refine wpIn_seq ?_
              refine wpIn_seq ?_
              -- region 39 (outright.go:216)
              refine wp_reg ([]) ([_, _, _, _, _, _, _, _, _, _, _] ++ rs) [(0, true)] mixed (by kernel_rfl) (hT) ?_; intro w hT
              refine rd hf rfl (yl_assign rfl) rfl rfl ?_; intro a hf
              refine plan_nil ?_
              replace hf := hf.sel [21, 19, 10, 12, 11, 9, 8, 7, 5, 1] (l' := [(21, _), (19, _), (10, _), (12, _), (11, _), (9, _), (8, _), (7, _), (5, _), (1, _)]) rfl
              refine wpIn_block ?_
              have honx := hon1
              replace hT := hT.bring 10
              replace hT := hT.bring 10
              refine wp_loopS (σ := Nat × List Rec) (fun (k, xs) => [(21, .int .i64 (k : Nat))]) [(19, _), (10, _), (12, _), (11, _), (9, _), (8, _), (7, _), (5, _), (1, _)] (fun (k, xs) L => ON N (i : Int) s' xs m g ∧ k ≤ d.length ∧ (rl.length ≤ i → ∀ u (hu : u < d.length), u < k → d[u] ∈ rids xs) ∧ ∃ z0 z1, InR bi xs [z0, z1] ∧ L = [z0, z1]) (fun (k, xs) => d.length - k) (0, xs) (L := [_, _]) (R := [_, _, _, _, _, _, _, _, _] ++ rs) (hf.sel [21, 19, 10, 12, 11, 9, 8, 7, 5, 1] rfl) (⟨hon1, Nat.zero_le _, fun _ u hu h => absurd h (Nat.not_lt_zero _), _, _, hIx, rfl⟩) hT ?_
              clear hf hT; rintro ⟨k, xs⟩ a w L hf ⟨hony, hkd, hall, z0, z1, hIx, rfl⟩ hT
              replace hf : Fr _ [(21, .int .i64 (k : Nat)), (19, _), (10, _), (12, _), (11, _), (9, _), (8, _), (7, _), (5, _), (1, _)] _ _ := hf
              refine wpIn_seq ?_
              refine wpIn_seq ?_
              -- region 40 (outright.go:216)
              refine wp_reg ([]) ([_, _, _, _, _, _, _, _, _, _, _] ++ rs) [(0, true), (1, true), (2, true), (3, true)] mixed (by kernel_rfl) (hT) ?_; intro w hT
              refine rd hf rfl (yl_move rfl) rfl rfl ?_; intro a hf
              refine rd hf rfl (yl_move rfl) rfl rfl ?_; intro a hf
              refine rd hf rfl (yl_lenE rfl Try.underlying37 (hD.els (.tail _ (.tail _ (.head _))))) rfl rfl ?_; intro a hf
              refine rd hf rfl (yl_cmp rfl rfl rfl) rfl rfl ?_; intro a hf
              refine plan_nil ?_
              replace hf := hf.sel [153, 21, 19, 10, 12, 11, 9, 8, 7, 5, 1] (l' := [(153, _), (21, _), (19, _), (10, _), (12, _), (11, _), (9, _), (8, _), (7, _), (5, _), (1, _)]) rfl
              refine wp_ifd hf rfl (fun hltk => ?_) (fun hltk => ?_)
              · -- then
                have hkl : k < d.length := by omega
                obtain ⟨dk, hdk⟩ : ∃ q, d[k] = q := ⟨_, rfl⟩
                have hj : d[k]? = some dk := hdk ▸ List.getElem?_eq_getElem hkl
                obtain ⟨y, hya, hyid, hyo⟩ := hdm dk (List.mem_of_getElem? hj)
                refine wpIn_skip ?_
                refine wpIn_seq ?_
                refine wpIn_block ?_
                refine wpIn_seq ?_
                -- region 42 (outright.go:217)
                refine wp_reg ([]) ([_, _, _, _, _, _, _, _, _, _, _] ++ rs) [(0, true), (1, true), (2, true), (3, true), (4, true), (5, true), (6, true), (7, true), (8, true), (9, false), (10, false), (11, true)] mixed (by kernel_rfl) (hT) ?_; intro w hT
                refine rd hf rfl (yl_move rfl) rfl rfl ?_; intro a hf
                refine rd hf rfl (yl_move rfl) rfl rfl ?_; intro a hf
                refine rd hf rfl (yl_move rfl) rfl rfl ?_; intro a hf
                refine rd hf rfl (yl_indexE rfl rfl Try.underlying37 sz_2 (hD.els (.tail _ (.tail _ (.head _)))) (by omega) (by omega)) rfl rfl ?_; intro a hf
                refine rd hf rfl (yl_load Try.underlying2 rfl rfl ((hD.els (.tail _ (.tail _ (.head _)))).cell hj (f := 0) rfl)) rfl rfl ?_; intro a hf
                refine rd hf rfl (yl_lookupOkE kI Try.underlying29 zr_31 rfl rfl ⟨_, .tail _ (.tail _ (.tail _ (.tail _ (.tail _ (.tail _ (.tail _ (.tail _ (.head _)))))))), hMA⟩ (show _ = encR y from by rw [hya]; rfl) (show _ = true from by rw [hya]; rfl)) rfl rfl ?_; intro a hf
                refine rd hf rfl (yl_move rfl) rfl rfl ?_; intro a hf
                refine rd hf rfl (yl_extract rfl rfl) rfl rfl ?_; intro a hf
                refine rd hf rfl (yl_extract rfl rfl) rfl rfl ?_; intro a hf
                refine ef hf hT rfl rfl (ef_alloc zr_31) rfl (l' := [(164, _), (163, _), (156, _), (162, _), (161, _), (160, _), (159, _), (158, _), (157, _), (153, _), (21, _), (19, _), (10, _), (12, _), (11, _), (9, _), (8, _), (7, _), (5, _), (1, _)]) rfl ?_; rintro a w v L ⟨b3, rfl, rfl⟩ hf hT
                refine efS hf hT rfl rfl (ef_storeW rfl rfl sz_31 rfl rfl rfl) ?_; rintro w L rfl hT
                refine rd hf rfl (yl_assign rfl) rfl rfl ?_; intro a hf
                refine plan_nil ?_
                replace hf := hf.sel [23, 22, 21, 19, 10, 12, 11, 9, 8, 7, 5, 1] (l' := [(23, _), (22, _), (21, _), (19, _), (10, _), (12, _), (11, _), (9, _), (8, _), (7, _), (5, _), (1, _)]) rfl
                refine wpIn_seq ?_
                refine wpIn_seq ?_
                -- region 43 (outright.go:218)
                refine wp_reg ([]) ([_, _, _, _, _, _, _, _, _, _, _, _] ++ rs) [(0, true), (1, true)] mixed (by kernel_rfl) (hT) ?_; intro w hT
                refine rd hf rfl (yl_move rfl) rfl rfl ?_; intro a hf
                refine rd hf rfl (yl_not rfl) rfl rfl ?_; intro a hf
                refine plan_nil ?_
                refine wp_if hf rfl (fun hno => ?_) (fun hno => ?_)
                · -- then
                  cases hno
                · -- else
                  refine wpIn_skip ?_
                  refine wpIn_seq ?_
                  refine wpIn_seq ?_
                  -- region 45 (outright.go:221)
                  refine wp_reg ([]) ([_, _, _, _, _, _, _, _, _, _, _, _] ++ rs) [(0, true), (1, true), (2, true), (3, true), (4, true), (5, true), (6, true)] mixed (by kernel_rfl) (hT) ?_; intro w hT
                  refine rd hf rfl (yl_faddr Try.underlying100 rfl rfl sz_22 (k := 1) rfl) rfl rfl ?_; intro a hf
                  refine rd hf rfl (yl_load Try.underlying22 rfl rfl ⟨_, .tail _ (.tail _ (.tail _ (.tail _ (.tail _ (.tail _ (.tail _ (.tail _ (.tail _ (.tail _ (.tail _ (.head _))))))))))), _, _, _, pt_self _ _, rfl⟩) rfl rfl ?_; intro a hf
                  refine rd hf rfl (yl_move rfl) rfl rfl ?_; intro a hf
                  refine rd hf rfl (yl_rem rfl rfl (by omega) (by decide)) rfl rfl ?_; intro a hf
                  refine rd hf rfl (yl_shr16 (k % 16) rfl rfl X.lo rfl (by omega) (by omega)) rfl rfl ?_; intro a hf
                  refine rd hf rfl (yl_remk rfl rfl (Int.natCast_nonneg _) (by decide)) rfl rfl ?_; intro a hf
                  refine rd hf rfl (yl_cmp rfl rfl rfl) rfl rfl ?_; intro a hf
                  refine plan_nil ?_
                  replace hf := hf.sel [173, 22, 21, 19, 10, 12, 11, 9, 8, 7, 5, 1] (l' := [(173, _), (22, _), (21, _), (19, _), (10, _), (12, _), (11, _), (9, _), (8, _), (7, _), (5, _), (1, _)]) rfl
                  refine wp_ifd hf rfl (fun hlost => ?_) (fun hlost => ?_)
                  · -- then
                    refine wpIn_exit ?_
                    refine then_exit ?_
                    refine inBlock_hit ?_
                    -- region 41 (outright.go:216)
                    refine wp_reg ([]) ([_, _, _, _, _, _, _, _, _, _, _, _] ++ rs) [(0, true), (1, true), (2, true)] mixed (by kernel_rfl) (hT) ?_; intro w hT
                    refine rd hf rfl (yl_move rfl) rfl rfl ?_; intro a hf
                    refine rd hf rfl (yl_add rfl rfl (by unfold inI64; omega)) rfl rfl ?_; intro a hf
                    refine rw_ hf rfl (yl_assign rfl) rfl (l' := [(21, _), (155, _), (154, _), (173, _), (22, _), (19, _), (10, _), (12, _), (11, _), (9, _), (8, _), (7, _), (5, _), (1, _)]) rfl ?_; intro a hf
                    refine plan_nil ?_
                    replace hf := hf.sel [21, 19, 10, 12, 11, 9, 8, 7, 5, 1] (l' := [(21, _), (19, _), (10, _), (12, _), (11, _), (9, _), (8, _), (7, _), (5, _), (1, _)]) rfl
                    exact ⟨(k + 1, xs), _, hf.sel [21, 19, 10, 12, 11, 9, 8, 7, 5, 1] rfl, ⟨hony, by omega, fun hle => absurd hlost (by rw [hX0 hle]; simp [rd0]), _, _, hIx, rfl⟩, (hT.brings [0]).tail, by first | omega | (dsimp only; omega)⟩
                  · -- else
                    refine wpIn_skip ?_
                    refine wpIn_seq ?_
                    -- region 46 (outright.go:224)
                    refine wp_reg ([_, _]) ([_, _, _, _, _, _, _, _, _, _] ++ rs) [(0, true), (1, true), (2, false), (3, true), (4, true), (5, true), (6, true), (7, true)] mixed (by kernel_rfl) (hT.brings [2, 2]) ?_; intro w hT
                    refine rd hf rfl (yl_move rfl) rfl rfl ?_; intro a hf
                    refine rd hf rfl (yl_loadB Try.underlying31 rfl sz_31 (vs := y.cells) (.head _) rfl (pt_self _ _) rfl rfl) rfl rfl ?_; intro a hf
                    replace hT : Tot _ _ ([_, _] ++ ([_, _, _, _, _, _, _, _, _, _] ++ rs)) := hT.bring 1
                    replace hT : Tot _ _ ([_, _] ++ ([_, _, _, _, _, _, _, _, _, _] ++ rs)) := hT.bring 1
                    refine ef_call hf rfl (wanted_none _ _ rfl) rfl rfl (by kernel_rfl) (Spec.frame (L2 := []) (Take_spec bi xs _ hIx hony.inb y hT)) rfl (l' := [(176, _), (175, _), (173, _), (22, _), (21, _), (19, _), (10, _), (12, _), (11, _), (9, _), (8, _), (7, _), (5, _), (1, _)]) rfl ?_; rintro a w v L ⟨L1, ⟨xs', ok1, er1, Lp, rfl, hIx2, rfl, hR2⟩, rfl⟩ hf hT
                    obtain ⟨j0, j1, rfl⟩ := hIx2.two
                    have htk := hony.take (by omega) (by rw [hyid]; exact hya) hR2
                    obtain rfl := htk.1
                    refine rd hf rfl (yl_move rfl) rfl rfl ?_; intro a hf
                    refine rd hf rfl (yl_extract rfl rfl) rfl rfl ?_; intro a hf
                    refine rd hf rfl (yl_extract rfl rfl) rfl rfl ?_; intro a hf
                    refine rd hf rfl (yl_assign rfl) rfl rfl ?_; intro a hf
                    refine rd hf rfl (yl_assign rfl) rfl rfl ?_; intro a hf
                    refine plan_nil ?_
                    replace hf := hf.sel [25, 21, 19, 10, 12, 11, 9, 8, 7, 5, 1] (l' := [(25, _), (21, _), (19, _), (10, _), (12, _), (11, _), (9, _), (8, _), (7, _), (5, _), (1, _)]) rfl
                    refine wpIn_seq ?_
                    -- region 47 (outright.go:225)
                    refine wp_reg ([]) ([_, _, _, _, _, _, _, _, _, _, _, _] ++ rs) [(0, true), (1, true)] mixed (by kernel_rfl) (hT) ?_; intro w hT
                    refine rd hf rfl (yl_move rfl) rfl rfl ?_; intro a hf
                    refine rd hf rfl (yl_cmp rfl rfl rfl) rfl rfl ?_; intro a hf
                    refine plan_nil ?_
                    refine wp_ifd hf rfl (fun hne0 => ?_) (fun hne0 => ?_)
                    · -- then
                      exact absurd rfl hne0
                    · -- else
                      refine wpIn_skip ?_
                      -- region 41 (outright.go:216)
                      refine wp_reg ([]) ([_, _, _, _, _, _, _, _, _, _, _, _] ++ rs) [(0, true), (1, true), (2, true)] mixed (by kernel_rfl) (hT) ?_; intro w hT
                      refine rd hf rfl (yl_move rfl) rfl rfl ?_; intro a hf
                      refine rd hf rfl (yl_add rfl rfl (by unfold inI64; omega)) rfl rfl ?_; intro a hf
                      refine rw_ hf rfl (yl_assign rfl) rfl (l' := [(21, _), (155, _), (154, _), (181, _), (180, _), (25, _), (19, _), (10, _), (12, _), (11, _), (9, _), (8, _), (7, _), (5, _), (1, _)]) rfl ?_; intro a hf
                      refine plan_nil ?_
                      replace hf := hf.sel [21, 19, 10, 12, 11, 9, 8, 7, 5, 1] (l' := [(21, _), (19, _), (10, _), (12, _), (11, _), (9, _), (8, _), (7, _), (5, _), (1, _)]) rfl
                      exact ⟨(k + 1, xs'), _, hf.sel [21, 19, 10, 12, 11, 9, 8, 7, 5, 1] rfl, ⟨htk.2.1, by omega, fun hle u hu huk => by by_cases he : u = k; subst he; rw [hdk]; rw [← hyid]; exact htk.2.2.1; exact htk.2.2.2 _ (hall hle u hu (by omega)), _, _, hIx2, rfl⟩, (hT.brings [2]).tail, by first | omega | (dsimp only; omega)⟩
              · -- else
                obtain rfl : k = d.length := by omega
                have hxl := hony.xlen
                refine wpIn_exit ?_
                refine then_exit ?_
                refine then_exit ?_
                refine inBlock_hit ?_
                refine wpIn_seq ?_
                refine wpIn_seq ?_
                -- region 49 (outright.go:229)
                refine wp_reg ([]) ([_, _, _, _, _, _, _, _, _, _, _] ++ rs) [(0, true), (1, true), (2, true)] mixed (by kernel_rfl) (hT) ?_; intro w hT
                refine rd hf rfl (yl_faddr Try.underlying100 rfl rfl sz_4 (k := 2) rfl) rfl rfl ?_; intro a hf
                refine rd hf rfl (yl_load Try.underlying4 rfl rfl ⟨_, .tail _ (.tail _ (.tail _ (.tail _ (.tail _ (.tail _ (.tail _ (.tail _ (.tail _ (.tail _ (.head _)))))))))), _, _, _, pt_self _ _, rfl⟩) rfl rfl ?_; intro a hf
                refine rd hf rfl (yl_not rfl) rfl rfl ?_; intro a hf
                refine plan_nil ?_
                replace hf := hf.sel [184, 10, 11, 9, 8, 7, 5, 1] (l' := [(184, _), (10, _), (11, _), (9, _), (8, _), (7, _), (5, _), (1, _)]) rfl
                have hdall : rl.length ≤ i → ∀ q ∈ ids s'.L, q ∈ rids xs := fun hle q hq => by
                  have h1 : d = ids s'.L := by rw [hd, hs', ids_bst, hroom2 hle]; exact hon.allSent
                  rw [← h1] at hq
                  obtain ⟨u, hu, rfl⟩ := List.getElem_of_mem hq
                  exact hall hle u hu hu
                replace hT := hT.bring 7
                replace hT := hT.bring 7
                replace hT := hT.bring 7
                replace hT := hT.bring 7
                replace hT := hT.bring 7
                have hf0 := hf.sel [10, 11, 9, 8, 7, 5, 1] (l' := [(10, _), (11, _), (9, _), (8, _), (7, _), (5, _), (1, _)]) rfl
                refine wp_cut (σ := BS) (L0 := [_, _, _, _, _]) (R := [_, _, _, _, _, _] ++ rs) hf0 hT (fun s2 => []) (fun s2 L => ON N (i : Int) s2 xs m g ∧ (rl.length ≤ i → s2.L = []) ∧ ∃ y0 y1 y2 y3 y4, BufR b s2 [y0, y1, y2, y3, y4] ∧ L = [y0, y1, y2, y3, y4]) ?_ ?_
                · clear hf0
                  refine wp_if hf rfl (fun hdeaf => ?_) (fun hdeaf => ?_)
                  · -- then
                    have hS0 := hony.set0 (by omega)
                    refine wpIn_seq ?_
                    -- region 50 (outright.go:230)
                    refine wp_reg ([_, _, _, _, _]) ([_, _, _, _, _, _] ++ rs) [(0, true), (1, true), (2, false), (3, false), (4, true), (5, true), (6, true), (7, true)] mixed (by kernel_rfl) (hT.brings [4, 4, 4, 4, 4]) ?_; intro w hT
                    refine rd hf rfl (yl_move rfl) rfl rfl ?_; intro a hf
                    refine rd hf rfl (yl_move rfl) rfl rfl ?_; intro a hf
                    refine ef_call hf rfl (wanted_none _ _ rfl) rfl rfl (by kernel_rfl) (Spec.frame (L2 := [_, _, _, _, _]) (Acks_spec bi xs (hIx.inn (fun x hx => by rcases mem2 hx with rfl | rfl; exact .tail _ (.tail _ (.tail _ (.tail _ (.tail _ (.head _))))); exact .tail _ (.tail _ (.tail _ (.tail _ (.tail _ (.tail _ (.head _)))))))) hony.inb hT)) rfl (l' := [(187, _), (186, _), (184, _), (10, _), (11, _), (9, _), (8, _), (7, _), (5, _), (1, _)]) rfl ?_; rintro a w sv L ⟨L1, ⟨XA, hA, rfl⟩, rfl⟩ hf hT
                    replace hT : Tot _ _ ([_, _, _, _, _, _] ++ ([_, _, _, _, _, _] ++ rs)) := hT.bring 5
                    replace hT : Tot _ _ ([_, _, _, _, _, _] ++ ([_, _, _, _, _, _] ++ rs)) := hT.bring 5
                    replace hT : Tot _ _ ([_, _, _, _, _, _] ++ ([_, _, _, _, _, _] ++ rs)) := hT.bring 5
                    replace hT : Tot _ _ ([_, _, _, _, _, _] ++ ([_, _, _, _, _, _] ++ rs)) := hT.bring 5
                    replace hT : Tot _ _ ([_, _, _, _, _, _] ++ ([_, _, _, _, _, _] ++ rs)) := hT.bring 5
                    refine ef_call hf rfl (wanted_none _ _ rfl) rfl rfl (by kernel_rfl) (Spec.frame (L2 := [_]) (Ack_spec b s' _ hBp hony.inv (by have := hony.len; omega) (runs (rids xs)) sv (hA.els (.head _)) hT)) rfl (l' := [(188, _), (187, _), (186, _), (184, _), (10, _), (11, _), (9, _), (8, _), (7, _), (5, _), (1, _)]) rfl ?_; rintro a w v L ⟨L1, ⟨s2, n, Lq, rfl, hBq, rfl, hR3⟩, rfl⟩ hf hT
                    obtain ⟨-, hs2, -⟩ := hR3.resolve_left (fun h => h.1 hS0)
                    obtain ⟨r0, r1, r2, r3, r4, rfl⟩ := hBq.five
                    rw [hS0] at hf
                    refine rd hf rfl (yl_move rfl) rfl rfl ?_; intro a hf
                    refine rd hf rfl (yl_extract rfl rfl) rfl rfl ?_; intro a hf
                    refine rd hf rfl (yl_extract rfl rfl) rfl rfl ?_; intro a hf
                    refine rd hf rfl (yl_assign rfl) rfl rfl ?_; intro a hf
                    refine plan_nil ?_
                    replace hf := hf.sel [20, 10, 11, 9, 8, 7, 5, 1] (l' := [(20, _), (10, _), (11, _), (9, _), (8, _), (7, _), (5, _), (1, _)]) rfl
                    refine wpIn_seq ?_
                    -- region 51 (outright.go:231)
                    refine wp_reg ([]) ([_, _, _, _, _, _, _, _, _, _, _, _] ++ rs) [(0, true), (1, true)] mixed (by kernel_rfl) (hT) ?_; intro w hT
                    refine rd hf rfl (yl_move rfl) rfl rfl ?_; intro a hf
                    refine rd hf rfl (yl_cmp rfl rfl rfl) rfl rfl ?_; intro a hf
                    refine plan_nil ?_
                    refine wp_ifd hf rfl (fun hne0 => ?_) (fun hne0 => ?_)
                    · -- then
                      exact absurd rfl hne0
                    · -- else
                      refine wpIn_skip ?_
                      exact ⟨s2, _, hf.sel [10, 11, 9, 8, 7, 5, 1] rfl, ⟨hs2 ▸ hony.ack, fun hle => by rw [hs2]; exact hony.ackAll (hdall hle), _, _, _, _, _, hBq, rfl⟩, (hT.brings [5]).tail⟩
                  · -- else
                    refine wpIn_skip ?_
                    exact ⟨s', _, hf.sel [10, 11, 9, 8, 7, 5, 1] rfl, ⟨hony, fun hle => absurd hdeaf (by rw [hX0 hle]; decide), _, _, _, _, _, hBp, rfl⟩, hT⟩
                · clear hf0 hf hT; rintro s2 a w L hf ⟨hon2, hnil2, w0, w1, w2, w3, w4, hB2, rfl⟩ hT
                  replace hf : Fr _ [(10, _), (11, _), (9, _), (8, _), (7, _), (5, _), (1, _)] _ _ := hf
                  refine wpIn_seq ?_
                  -- region 53 (outright.go:236)
                  refine wp_reg ([]) ([_, _, _, _, _, _, _, _, _, _, _] ++ rs) [(0, true), (1, false), (2, true), (3, false), (4, true), (5, true)] mixed (by kernel_rfl) (hT) ?_; intro w hT
                  refine rd hf rfl (yl_move rfl) rfl rfl ?_; intro a hf
                  refine ef_call hf rfl (wanted_none _ _ rfl) rfl rfl (by kernel_rfl) (Spec.frame (L2 := []) (Held_spec b s2 (hB2.inn (fun x hx => by rcases mem5 hx with rfl | rfl | rfl | rfl | rfl; exact .head _; exact .tail _ (.head _); exact .tail _ (.tail _ (.head _)); exact .tail _ (.tail _ (.tail _ (.head _))); exact .tail _ (.tail _ (.tail _ (.tail _ (.head _)))))) hon2.inv.nd (by have := hon2.len; omega) hT)) rfl (l' := [(194, _), (10, _), (11, _), (9, _), (8, _), (7, _), (5, _), (1, _)]) rfl ?_; rintro a w hv L ⟨L1, ⟨XH1, hH1, rfl⟩, rfl⟩ hf hT
                  refine rd hf rfl (yl_move rfl) rfl rfl ?_; intro a hf
                  refine ef_call hf rfl (wanted_none _ _ rfl) rfl rfl (by kernel_rfl) (Spec.frame (L2 := [_]) (Records_spec bi xs (hIx.inn (fun x hx => by rcases mem2 hx with rfl | rfl; exact .tail _ (.tail _ (.tail _ (.tail _ (.tail _ (.tail _ (.head _)))))); exact .tail _ (.tail _ (.tail _ (.tail _ (.tail _ (.tail _ (.tail _ (.head _))))))))) hon2.inb.srt hon2.inb.len hT)) rfl (l' := [(196, _), (195, _), (194, _), (10, _), (11, _), (9, _), (8, _), (7, _), (5, _), (1, _)]) rfl ?_; rintro a w rv L ⟨L1, ⟨XR, hRc, rfl⟩, rfl⟩ hf hT
                  refine rd hf rfl (yl_assign rfl) rfl rfl ?_; intro a hf
                  refine rd hf rfl (yl_assign rfl) rfl rfl ?_; intro a hf
                  refine plan_nil ?_
                  replace hf := hf.sel [27, 26, 10, 11, 9, 8, 7, 5, 1] (l' := [(27, _), (26, _), (10, _), (11, _), (9, _), (8, _), (7, _), (5, _), (1, _)]) rfl
                  refine wpIn_seq ?_
                  -- region 54 (outright.go:237)
                  refine wp_reg ([]) ([_, _, _, _, _, _, _, _, _, _, _, _, _] ++ rs) [(0, false), (1, true)] mixed (by kernel_rfl) (hT) ?_; intro w hT
                  refine ef hf hT rfl rfl (ef_makeSlice (E := encB) (n := 100) (za := false) rfl rfl Try.underlying98 zb_4 rfl (by decide) (by decide)) rfl (l' := [(27, _), (26, _), (10, _), (11, _), (9, _), (8, _), (7, _), (5, _), (1, _)]) rfl ?_; rintro a w av L ⟨_, ARa, _, hARa, rfl⟩ hf hT
                  refine rd hf rfl (yl_assign rfl) rfl rfl ?_; intro a hf
                  refine plan_nil ?_
                  refine wpIn_seq ?_
                  refine wpIn_seq ?_
                  -- region 55 (outright.go:238)
                  refine wp_reg ([]) ([_, _, _, _, _, _, _, _, _, _, _, _, _, _] ++ rs) [(0, true)] mixed (by kernel_rfl) (hT) ?_; intro w hT
                  refine rd hf rfl (yl_assign rfl) rfl rfl ?_; intro a hf
                  refine plan_nil ?_
                  refine wpIn_block ?_
                  refine wp_loopS (σ := Nat × List Bool) (fun (k, ar) => [(29, .int .i64 (k : Nat))]) [(28, _), (27, _), (26, _), (10, _), (11, _), (9, _), (8, _), (7, _), (5, _), (1, _)] (fun (k, ar) L => ar.length = 100 ∧ k ≤ xs.length ∧ (∀ u : Nat, ar[u]? = some true ↔ (u : Int) ∈ (rids xs).take k) ∧ ∃ xa, Sl encB 4 av ar xa ∧ L = [xa]) (fun (k, ar) => xs.length - k) (0, List.replicate 100 false) (L := [_]) (R := [_, _, _, _, _, _, _, _, _, _, _, _, _] ++ rs) (hf.sel [29, 28, 27, 26, 10, 11, 9, 8, 7, 5, 1] rfl) (⟨List.length_replicate, Nat.zero_le _, fun u => by rw [List.getElem?_replicate]; simp, _, hARa, rfl⟩) hT ?_
                  clear hf hT; rintro ⟨k, ar⟩ a w L hf ⟨harl, hkx, har, xa, hAR, rfl⟩ hT
                  replace hf : Fr _ [(29, .int .i64 (k : Nat)), (28, _), (27, _), (26, _), (10, _), (11, _), (9, _), (8, _), (7, _), (5, _), (1, _)] _ _ := hf
                  refine wpIn_seq ?_
                  refine wpIn_seq ?_
                  -- region 56 (outright.go:238)
                  refine wp_reg ([]) ([_, _, _, _, _, _, _, _, _, _, _, _, _, _] ++ rs) [(0, true), (1, true), (2, true), (3, true)] mixed (by kernel_rfl) (hT) ?_; intro w hT
                  refine rd hf rfl (yl_move rfl) rfl rfl ?_; intro a hf
                  refine rd hf rfl (yl_move rfl) rfl rfl ?_; intro a hf
                  refine rd hf rfl (yl_lenE rfl Try.underlying70 (hRc.els (.tail _ (.head _)))) rfl rfl ?_; intro a hf
                  refine rd hf rfl (yl_cmp rfl rfl rfl) rfl rfl ?_; intro a hf
                  refine plan_nil ?_
                  replace hf := hf.sel [202, 29, 28, 27, 26, 10, 11, 9, 8, 7, 5, 1] (l' := [(202, _), (29, _), (28, _), (27, _), (26, _), (10, _), (11, _), (9, _), (8, _), (7, _), (5, _), (1, _)]) rfl
                  refine wp_ifd hf rfl (fun hltk => ?_) (fun hltk => ?_)
                  · -- then
                    have hkl : k < xs.length := by omega
                    obtain ⟨r, hrk⟩ : ∃ q, xs[k] = q := ⟨_, rfl⟩
                    have hj : xs[k]? = some r := hrk ▸ List.getElem?_eq_getElem hkl
                    have hrm := List.mem_of_getElem? hj
                    have hra := hon2.arr r hrm
                    have hrd := (hon2.dom _ _ hra).1
                    have hkr : k < (rids xs).length := by simp only [rids, List.length_map]; exact hkl
                    have hrk' : (rids xs)[k] = r.id := by simp only [rids, List.getElem_map, hrk]
                    have hsrt : (rids xs).Pairwise (· < ·) := List.pairwise_map.2 hon2.inb.srt
                    have hnot : ¬ ar[r.id.toNat]? = some true := fun h => by
                      have h1 := (har _).1 h
                      rw [show ((r.id.toNat : Nat) : Int) = r.id by omega] at h1
                      obtain ⟨u, hu, he⟩ := List.getElem_of_mem h1
                      have huk : u < k ∧ u < (rids xs).length := by rw [List.length_take] at hu; omega
                      rw [List.getElem_take] at he
                      have h2 := List.pairwise_iff_getElem.1 hsrt u k huk.2 hkr huk.1
                      omega
                    obtain ⟨b0, hja0⟩ := get_lt harl hrd.1 (by omega)
                    have hja : ar[r.id.toNat]? = some false := by cases b0 with | false => exact hja0 | true => exact absurd hja0 hnot
                    refine wpIn_skip ?_
                    refine wpIn_seq ?_
                    refine wpIn_block ?_
                    refine wpIn_seq ?_
                    refine wpIn_seq ?_
                    -- region 58 (outright.go:239)
                    refine wp_reg ([]) ([_, _, _, _, _, _, _, _, _, _, _, _, _, _] ++ rs) [(0, true), (1, true), (2, true), (3, true), (4, true), (5, true), (6, true), (7, true), (8, true), (9, true), (10, true), (11, true), (12, true), (13, true), (14, true), (15, true), (16, true), (17, true), (18, true), (19, true), (20, true), (21, true), (22, true), (23, true), (24, true), (25, true), (26, true), (27, true), (28, true), (29, true), (30, true), (31, true), (32, true), (33, true), (34, true), (35, true), (36, true), (37, true), (38, true), (39, true), (40, true), (41, true), (42, true), (43, true), (44, true), (45, true), (46, true), (47, true), (48, true), (49, true), (50, true), (51, true), (52, true), (53, true), (54, true), (55, true), (56, true)] mixed (by kernel_rfl) (hT) ?_; intro w hT
                    refine rd hf rfl (yl_move rfl) rfl rfl ?_; intro a hf
                    refine rd hf rfl (yl_move rfl) rfl rfl ?_; intro a hf
                    refine rd hf rfl (yl_indexE rfl rfl Try.underlying70 sz_31 (hRc.els (.tail _ (.head _))) (by omega) (by omega)) rfl rfl ?_; intro a hf
                    refine rd hf rfl (yl_faddr Try.underlying31 rfl rfl sz_2 rfl) rfl rfl ?_; intro a hf
                    refine rd hf rfl (yl_load Try.underlying2 rfl rfl ((hRc.els (.tail _ (.head _))).cell hj (f := 0) rfl)) rfl rfl ?_; intro a hf
                    refine rd hf rfl (yl_cmp rfl rfl rfl) rfl rfl ?_; intro a hf
                    refine rd hf rfl (yl_move rfl) rfl rfl ?_; intro a hf
                    refine rdT hf rfl rfl rfl rfl (by first | exact (decide_eq_false (by omega)) | simp [(decide_eq_false (by omega))]) (yl_move rfl) rfl (l' := [(212, _), (211, _), (210, _), (209, _), (208, _), (207, _), (206, _), (205, _), (202, _), (29, _), (28, _), (27, _), (26, _), (10, _), (11, _), (9, _), (8, _), (7, _), (5, _), (1, _)]) rfl ?_; intro a hf
                    refine rdT hf rfl rfl rfl rfl (by first | exact (decide_eq_false (by omega)) | simp [(decide_eq_false (by omega))]) (yl_move rfl) rfl (l' := [(213, _), (212, _), (211, _), (210, _), (209, _), (208, _), (207, _), (206, _), (205, _), (202, _), (29, _), (28, _), (27, _), (26, _), (10, _), (11, _), (9, _), (8, _), (7, _), (5, _), (1, _)]) rfl ?_; intro a hf
                    refine rdT hf rfl rfl rfl rfl (by first | exact (decide_eq_false (by omega)) | simp [(decide_eq_false (by omega))]) (yl_indexE rfl rfl Try.underlying70 sz_31 (hRc.els (.tail _ (.head _))) (by omega) (by omega)) rfl (l' := [(214, _), (213, _), (212, _), (211, _), (210, _), (209, _), (208, _), (207, _), (206, _), (205, _), (202, _), (29, _), (28, _), (27, _), (26, _), (10, _), (11, _), (9, _), (8, _), (7, _), (5, _), (1, _)]) rfl ?_; intro a hf
                    refine rdT hf rfl rfl rfl rfl (by first | exact (decide_eq_false (by omega)) | simp [(decide_eq_false (by omega))]) (yl_faddr Try.underlying31 rfl rfl sz_2 rfl) rfl (l' := [(215, _), (214, _), (213, _), (212, _), (211, _), (210, _), (209, _), (208, _), (207, _), (206, _), (205, _), (202, _), (29, _), (28, _), (27, _), (26, _), (10, _), (11, _), (9, _), (8, _), (7, _), (5, _), (1, _)]) rfl ?_; intro a hf
                    refine rdT hf rfl rfl rfl rfl (by first | exact (decide_eq_false (by omega)) | simp [(decide_eq_false (by omega))]) (yl_load Try.underlying2 rfl rfl ((hRc.els (.tail _ (.head _))).cell hj (f := 0) rfl)) rfl (l' := [(216, _), (215, _), (214, _), (213, _), (212, _), (211, _), (210, _), (209, _), (208, _), (207, _), (206, _), (205, _), (202, _), (29, _), (28, _), (27, _), (26, _), (10, _), (11, _), (9, _), (8, _), (7, _), (5, _), (1, _)]) rfl ?_; intro a hf
                    refine rdT hf rfl rfl rfl rfl (by first | exact (decide_eq_false (by omega)) | simp [(decide_eq_false (by omega))]) (yl_move rfl) rfl (l' := [(217, _), (216, _), (215, _), (214, _), (213, _), (212, _), (211, _), (210, _), (209, _), (208, _), (207, _), (206, _), (205, _), (202, _), (29, _), (28, _), (27, _), (26, _), (10, _), (11, _), (9, _), (8, _), (7, _), (5, _), (1, _)]) rfl ?_; intro a hf
                    refine rdT hf rfl rfl rfl rfl (by first | exact (decide_eq_false (by omega)) | simp [(decide_eq_false (by omega))]) (yl_cmp rfl rfl rfl) rfl (l' := [(218, _), (217, _), (216, _), (215, _), (214, _), (213, _), (212, _), (211, _), (210, _), (209, _), (208, _), (207, _), (206, _), (205, _), (202, _), (29, _), (28, _), (27, _), (26, _), (10, _), (11, _), (9, _), (8, _), (7, _), (5, _), (1, _)]) rfl ?_; intro a hf
                    refine rd hf rfl (yl_pickFF rfl (decide_eq_false (by omega)) rfl) rfl rfl ?_; intro a hf
                    refine rd hf rfl (yl_move rfl) rfl rfl ?_; intro a hf
                    refine rdT hf rfl rfl rfl rfl (by first | exact (decide_eq_false (by omega)) | simp [(decide_eq_false (by omega))]) (yl_move rfl) rfl (l' := [(221, _), (220, _), (219, _), (218, _), (217, _), (216, _), (215, _), (214, _), (213, _), (212, _), (211, _), (210, _), (209, _), (208, _), (207, _), (206, _), (205, _), (202, _), (29, _), (28, _), (27, _), (26, _), (10, _), (11, _), (9, _), (8, _), (7, _), (5, _), (1, _)]) rfl ?_; intro a hf
                    refine rdT hf rfl rfl rfl rfl (by first | exact (decide_eq_false (by omega)) | simp [(decide_eq_false (by omega))]) (yl_move rfl) rfl (l' := [(222, _), (221, _), (220, _), (219, _), (218, _), (217, _), (216, _), (215, _), (214, _), (213, _), (212, _), (211, _), (210, _), (209, _), (208, _), (207, _), (206, _), (205, _), (202, _), (29, _), (28, _), (27, _), (26, _), (10, _), (11, _), (9, _), (8, _), (7, _), (5, _), (1, _)]) rfl ?_; intro a hf
                    refine rdT hf rfl rfl rfl rfl (by first | exact (decide_eq_false (by omega)) | simp [(decide_eq_false (by omega))]) (yl_indexE rfl rfl Try.underlying70 sz_31 (hRc.els (.tail _ (.head _))) (by omega) (by omega)) rfl (l' := [(223, _), (222, _), (221, _), (220, _), (219, _), (218, _), (217, _), (216, _), (215, _), (214, _), (213, _), (212, _), (211, _), (210, _), (209, _), (208, _), (207, _), (206, _), (205, _), (202, _), (29, _), (28, _), (27, _), (26, _), (10, _), (11, _), (9, _), (8, _), (7, _), (5, _), (1, _)]) rfl ?_; intro a hf
                    refine rdT hf rfl rfl rfl rfl (by first | exact (decide_eq_false (by omega)) | simp [(decide_eq_false (by omega))]) (yl_loadA Try.underlying31 rfl sz_31 rfl ((hRc.els (.tail _ (.head _))).row hj) rfl) rfl (l' := [(224, _), (223, _), (222, _), (221, _), (220, _), (219, _), (218, _), (217, _), (216, _), (215, _), (214, _), (213, _), (212, _), (211, _), (210, _), (209, _), (208, _), (207, _), (206, _), (205, _), (202, _), (29, _), (28, _), (27, _), (26, _), (10, _), (11, _), (9, _), (8, _), (7, _), (5, _), (1, _)]) rfl ?_; intro a hf
                    refine rdT hf rfl rfl rfl rfl (by first | exact (decide_eq_false (by omega)) | simp [(decide_eq_false (by omega))]) (yl_move rfl) rfl (l' := [(225, _), (224, _), (223, _), (222, _), (221, _), (220, _), (219, _), (218, _), (217, _), (216, _), (215, _), (214, _), (213, _), (212, _), (211, _), (210, _), (209, _), (208, _), (207, _), (206, _), (205, _), (202, _), (29, _), (28, _), (27, _), (26, _), (10, _), (11, _), (9, _), (8, _), (7, _), (5, _), (1, _)]) rfl ?_; intro a hf
                    refine rdT hf rfl rfl rfl rfl (by first | exact (decide_eq_false (by omega)) | simp [(decide_eq_false (by omega))]) (yl_move rfl) rfl (l' := [(226, _), (225, _), (224, _), (223, _), (222, _), (221, _), (220, _), (219, _), (218, _), (217, _), (216, _), (215, _), (214, _), (213, _), (212, _), (211, _), (210, _), (209, _), (208, _), (207, _), (206, _), (205, _), (202, _), (29, _), (28, _), (27, _), (26, _), (10, _), (11, _), (9, _), (8, _), (7, _), (5, _), (1, _)]) rfl ?_; intro a hf
                    refine rdT hf rfl rfl rfl rfl (by first | exact (decide_eq_false (by omega)) | simp [(decide_eq_false (by omega))]) (yl_move rfl) rfl (l' := [(227, _), (226, _), (225, _), (224, _), (223, _), (222, _), (221, _), (220, _), (219, _), (218, _), (217, _), (216, _), (215, _), (214, _), (213, _), (212, _), (211, _), (210, _), (209, _), (208, _), (207, _), (206, _), (205, _), (202, _), (29, _), (28, _), (27, _), (26, _), (10, _), (11, _), (9, _), (8, _), (7, _), (5, _), (1, _)]) rfl ?_; intro a hf
                    refine rdT hf rfl rfl rfl rfl (by first | exact (decide_eq_false (by omega)) | simp [(decide_eq_false (by omega))]) (yl_indexE rfl rfl Try.underlying70 sz_31 (hRc.els (.tail _ (.head _))) (by omega) (by omega)) rfl (l' := [(228, _), (227, _), (226, _), (225, _), (224, _), (223, _), (222, _), (221, _), (220, _), (219, _), (218, _), (217, _), (216, _), (215, _), (214, _), (213, _), (212, _), (211, _), (210, _), (209, _), (208, _), (207, _), (206, _), (205, _), (202, _), (29, _), (28, _), (27, _), (26, _), (10, _), (11, _), (9, _), (8, _), (7, _), (5, _), (1, _)]) rfl ?_; intro a hf
                    refine rdT hf rfl rfl rfl rfl (by first | exact (decide_eq_false (by omega)) | simp [(decide_eq_false (by omega))]) (yl_faddr Try.underlying31 rfl rfl sz_2 rfl) rfl (l' := [(229, _), (228, _), (227, _), (226, _), (225, _), (224, _), (223, _), (222, _), (221, _), (220, _), (219, _), (218, _), (217, _), (216, _), (215, _), (214, _), (213, _), (212, _), (211, _), (210, _), (209, _), (208, _), (207, _), (206, _), (205, _), (202, _), (29, _), (28, _), (27, _), (26, _), (10, _), (11, _), (9, _), (8, _), (7, _), (5, _), (1, _)]) rfl ?_; intro a hf
                    refine rdT hf rfl rfl rfl rfl (by first | exact (decide_eq_false (by omega)) | simp [(decide_eq_false (by omega))]) (yl_load Try.underlying2 rfl rfl ((hRc.els (.tail _ (.head _))).cell hj (f := 0) rfl)) rfl (l' := [(230, _), (229, _), (228, _), (227, _), (226, _), (225, _), (224, _), (223, _), (222, _), (221, _), (220, _), (219, _), (218, _), (217, _), (216, _), (215, _), (214, _), (213, _), (212, _), (211, _), (210, _), (209, _), (208, _), (207, _), (206, _), (205, _), (202, _), (29, _), (28, _), (27, _), (26, _), (10, _), (11, _), (9, _), (8, _), (7, _), (5, _), (1, _)]) rfl ?_; intro a hf
                    refine rdT hf rfl rfl rfl rfl (by first | exact (decide_eq_false (by omega)) | simp [(decide_eq_false (by omega))]) (yl_lookupE kI Try.underlying29 zr_31 rfl rfl ⟨_, .tail _ (.tail _ (.tail _ (.tail _ (.tail _ (.tail _ (.tail _ (.tail _ (.tail _ (.tail _ (.tail _ (.head _))))))))))), hMA⟩ (show _ = encR r from by rw [hra]; rfl)) rfl (l' := [(231, _), (230, _), (229, _), (228, _), (227, _), (226, _), (225, _), (224, _), (223, _), (222, _), (221, _), (220, _), (219, _), (218, _), (217, _), (216, _), (215, _), (214, _), (213, _), (212, _), (211, _), (210, _), (209, _), (208, _), (207, _), (206, _), (205, _), (202, _), (29, _), (28, _), (27, _), (26, _), (10, _), (11, _), (9, _), (8, _), (7, _), (5, _), (1, _)]) rfl ?_; intro a hf
                    refine rdT hf rfl rfl rfl rfl (by first | exact (decide_eq_false (by omega)) | simp [(decide_eq_false (by omega))]) (yl_aggEq (k := 2) rfl rfl (by kernel_rfl) (by decide) (eqR r r) rfl) rfl (l' := [(232, _), (231, _), (230, _), (229, _), (228, _), (227, _), (226, _), (225, _), (224, _), (223, _), (222, _), (221, _), (220, _), (219, _), (218, _), (217, _), (216, _), (215, _), (214, _), (213, _), (212, _), (211, _), (210, _), (209, _), (208, _), (207, _), (206, _), (205, _), (202, _), (29, _), (28, _), (27, _), (26, _), (10, _), (11, _), (9, _), (8, _), (7, _), (5, _), (1, _)]) rfl ?_; intro a hf
                    refine rd hf rfl (yl_pickFF rfl (decide_eq_false (by omega)) rfl) rfl rfl ?_; intro a hf
                    refine rd hf rfl (yl_move rfl) rfl rfl ?_; intro a hf
                    refine rdT hf rfl rfl rfl rfl (by first | exact (by simp) | simp [(by simp)]) (yl_move rfl) rfl (l' := [(235, _), (234, _), (233, _), (232, _), (231, _), (230, _), (229, _), (228, _), (227, _), (226, _), (225, _), (224, _), (223, _), (222, _), (221, _), (220, _), (219, _), (218, _), (217, _), (216, _), (215, _), (214, _), (213, _), (212, _), (211, _), (210, _), (209, _), (208, _), (207, _), (206, _), (205, _), (202, _), (29, _), (28, _), (27, _), (26, _), (10, _), (11, _), (9, _), (8, _), (7, _), (5, _), (1, _)]) rfl ?_; intro a hf
                    refine rdT hf rfl rfl rfl rfl (by first | exact (by simp) | simp [(by simp)]) (yl_move rfl) rfl (l' := [(236, _), (235, _), (234, _), (233, _), (232, _), (231, _), (230, _), (229, _), (228, _), (227, _), (226, _), (225, _), (224, _), (223, _), (222, _), (221, _), (220, _), (219, _), (218, _), (217, _), (216, _), (215, _), (214, _), (213, _), (212, _), (211, _), (210, _), (209, _), (208, _), (207, _), (206, _), (205, _), (202, _), (29, _), (28, _), (27, _), (26, _), (10, _), (11, _), (9, _), (8, _), (7, _), (5, _), (1, _)]) rfl ?_; intro a hf
                    refine rdT hf rfl rfl rfl rfl (by first | exact (by simp) | simp [(by simp)]) (yl_move rfl) rfl (l' := [(237, _), (236, _), (235, _), (234, _), (233, _), (232, _), (231, _), (230, _), (229, _), (228, _), (227, _), (226, _), (225, _), (224, _), (223, _), (222, _), (221, _), (220, _), (219, _), (218, _), (217, _), (216, _), (215, _), (214, _), (213, _), (212, _), (211, _), (210, _), (209, _), (208, _), (207, _), (206, _), (205, _), (202, _), (29, _), (28, _), (27, _), (26, _), (10, _), (11, _), (9, _), (8, _), (7, _), (5, _), (1, _)]) rfl ?_; intro a hf
                    refine rdT hf rfl rfl rfl rfl (by first | exact (by simp) | simp [(by simp)]) (yl_indexE rfl rfl Try.underlying70 sz_31 (hRc.els (.tail _ (.head _))) (by omega) (by omega)) rfl (l' := [(238, _), (237, _), (236, _), (235, _), (234, _), (233, _), (232, _), (231, _), (230, _), (229, _), (228, _), (227, _), (226, _), (225, _), (224, _), (223, _), (222, _), (221, _), (220, _), (219, _), (218, _), (217, _), (216, _), (215, _), (214, _), (213, _), (212, _), (211, _), (210, _), (209, _), (208, _), (207, _), (206, _), (205, _), (202, _), (29, _), (28, _), (27, _), (26, _), (10, _), (11, _), (9, _), (8, _), (7, _), (5, _), (1, _)]) rfl ?_; intro a hf
                    refine rdT hf rfl rfl rfl rfl (by first | exact (by simp) | simp [(by simp)]) (yl_faddr Try.underlying31 rfl rfl sz_2 rfl) rfl (l' := [(239, _), (238, _), (237, _), (236, _), (235, _), (234, _), (233, _), (232, _), (231, _), (230, _), (229, _), (228, _), (227, _), (226, _), (225, _), (224, _), (223, _), (222, _), (221, _), (220, _), (219, _), (218, _), (217, _), (216, _), (215, _), (214, _), (213, _), (212, _), (211, _), (210, _), (209, _), (208, _), (207, _), (206, _), (205, _), (202, _), (29, _), (28, _), (27, _), (26, _), (10, _), (11, _), (9, _), (8, _), (7, _), (5, _), (1, _)]) rfl ?_; intro a hf
                    refine rdT hf rfl rfl rfl rfl (by first | exact (by simp) | simp [(by simp)]) (yl_load Try.underlying2 rfl rfl ((hRc.els (.tail _ (.head _))).cell hj (f := 0) rfl)) rfl (l' := [(240, _), (239, _), (238, _), (237, _), (236, _), (235, _), (234, _), (233, _), (232, _), (231, _), (230, _), (229, _), (228, _), (227, _), (226, _), (225, _), (224, _), (223, _), (222, _), (221, _), (220, _), (219, _), (218, _), (217, _), (216, _), (215, _), (214, _), (213, _), (212, _), (211, _), (210, _), (209, _), (208, _), (207, _), (206, _), (205, _), (202, _), (29, _), (28, _), (27, _), (26, _), (10, _), (11, _), (9, _), (8, _), (7, _), (5, _), (1, _)]) rfl ?_; intro a hf
                    refine rdT hf rfl rfl rfl rfl (by first | exact (by simp) | simp [(by simp)]) (yl_indexE rfl rfl Try.underlying98 sz_4 (hAR.els (.head _)) (by omega) (by omega)) rfl (l' := [(241, _), (240, _), (239, _), (238, _), (237, _), (236, _), (235, _), (234, _), (233, _), (232, _), (231, _), (230, _), (229, _), (228, _), (227, _), (226, _), (225, _), (224, _), (223, _), (222, _), (221, _), (220, _), (219, _), (218, _), (217, _), (216, _), (215, _), (214, _), (213, _), (212, _), (211, _), (210, _), (209, _), (208, _), (207, _), (206, _), (205, _), (202, _), (29, _), (28, _), (27, _), (26, _), (10, _), (11, _), (9, _), (8, _), (7, _), (5, _), (1, _)]) rfl ?_; intro a hf
                    refine rdT hf rfl rfl rfl rfl (by first | exact (by simp) | simp [(by simp)]) (yl_load Try.underlying4 rfl rfl ((hAR.els (.head _)).cell hja (f := 0) rfl)) rfl (l' := [(242, _), (241, _), (240, _), (239, _), (238, _), (237, _), (236, _), (235, _), (234, _), (233, _), (232, _), (231, _), (230, _), (229, _), (228, _), (227, _), (226, _), (225, _), (224, _), (223, _), (222, _), (221, _), (220, _), (219, _), (218, _), (217, _), (216, _), (215, _), (214, _), (213, _), (212, _), (211, _), (210, _), (209, _), (208, _), (207, _), (206, _), (205, _), (202, _), (29, _), (28, _), (27, _), (26, _), (10, _), (11, _), (9, _), (8, _), (7, _), (5, _), (1, _)]) rfl ?_; intro a hf
                    refine rd hf rfl (yl_pickFF rfl (by simp) rfl) rfl rfl ?_; intro a hf
                    refine rd hf rfl (yl_move rfl) rfl rfl ?_; intro a hf
                    refine rdT hf rfl rfl rfl rfl (rfl) (yl_move rfl) rfl (l' := [(245, _), (244, _), (243, _), (242, _), (241, _), (240, _), (239, _), (238, _), (237, _), (236, _), (235, _), (234, _), (233, _), (232, _), (231, _), (230, _), (229, _), (228, _), (227, _), (226, _), (225, _), (224, _), (223, _), (222, _), (221, _), (220, _), (219, _), (218, _), (217, _), (216, _), (215, _), (214, _), (213, _), (212, _), (211, _), (210, _), (209, _), (208, _), (207, _), (206, _), (205, _), (202, _), (29, _), (28, _), (27, _), (26, _), (10, _), (11, _), (9, _), (8, _), (7, _), (5, _), (1, _)]) rfl ?_; intro a hf
                    refine rdT hf rfl rfl rfl rfl (rfl) (yl_cmp rfl rfl rfl) rfl (l' := [(246, _), (245, _), (244, _), (243, _), (242, _), (241, _), (240, _), (239, _), (238, _), (237, _), (236, _), (235, _), (234, _), (233, _), (232, _), (231, _), (230, _), (229, _), (228, _), (227, _), (226, _), (225, _), (224, _), (223, _), (222, _), (221, _), (220, _), (219, _), (218, _), (217, _), (216, _), (215, _), (214, _), (213, _), (212, _), (211, _), (210, _), (209, _), (208, _), (207, _), (206, _), (205, _), (202, _), (29, _), (28, _), (27, _), (26, _), (10, _), (11, _), (9, _), (8, _), (7, _), (5, _), (1, _)]) rfl ?_; intro a hf
                    refine rdT hf rfl rfl rfl rfl (rfl) (yl_move rfl) rfl (l' := [(247, _), (246, _), (245, _), (244, _), (243, _), (242, _), (241, _), (240, _), (239, _), (238, _), (237, _), (236, _), (235, _), (234, _), (233, _), (232, _), (231, _), (230, _), (229, _), (228, _), (227, _), (226, _), (225, _), (224, _), (223, _), (222, _), (221, _), (220, _), (219, _), (218, _), (217, _), (216, _), (215, _), (214, _), (213, _), (212, _), (211, _), (210, _), (209, _), (208, _), (207, _), (206, _), (205, _), (202, _), (29, _), (28, _), (27, _), (26, _), (10, _), (11, _), (9, _), (8, _), (7, _), (5, _), (1, _)]) rfl ?_; intro a hf
                    by_cases hg42 : (0 : Int) < ((k : Nat) : Int)
                    · have hgT2 : decide ((0 : Int) < ((k : Nat) : Int)) = true := by simpa using hg42
                      obtain ⟨r', hrk2⟩ : ∃ q, xs[k - 1]'(by omega) = q := ⟨_, rfl⟩
                      have hjp : xs[((k : Int) - 1).toNat]? = some r' := by rw [show ((k : Int) - 1).toNat = k - 1 by omega]; exact hrk2 ▸ List.getElem?_eq_getElem (by omega)
                      have hlt3 : r'.id < r.id := by have h1 := List.pairwise_iff_getElem.1 hon2.inb.srt (k - 1) k (by omega) hkl (by omega); rw [hrk, hrk2] at h1; exact h1
                      refine rdT hf rfl rfl rfl rfl (by first | exact hgT2 | simp [hgT2]) (yl_move rfl) rfl (l' := [(248, _), (247, _), (246, _), (245, _), (244, _), (243, _), (242, _), (241, _), (240, _), (239, _), (238, _), (237, _), (236, _), (235, _), (234, _), (233, _), (232, _), (231, _), (230, _), (229, _), (228, _), (227, _), (226, _), (225, _), (224, _), (223, _), (222, _), (221, _), (220, _), (219, _), (218, _), (217, _), (216, _), (215, _), (214, _), (213, _), (212, _), (211, _), (210, _), (209, _), (208, _), (207, _), (206, _), (205, _), (202, _), (29, _), (28, _), (27, _), (26, _), (10, _), (11, _), (9, _), (8, _), (7, _), (5, _), (1, _)]) rfl ?_; intro a hf
                      refine rdT hf rfl rfl rfl rfl (by first | exact hgT2 | simp [hgT2]) (yl_move rfl) rfl (l' := [(249, _), (248, _), (247, _), (246, _), (245, _), (244, _), (243, _), (242, _), (241, _), (240, _), (239, _), (238, _), (237, _), (236, _), (235, _), (234, _), (233, _), (232, _), (231, _), (230, _), (229, _), (228, _), (227, _), (226, _), (225, _), (224, _), (223, _), (222, _), (221, _), (220, _), (219, _), (218, _), (217, _), (216, _), (215, _), (214, _), (213, _), (212, _), (211, _), (210, _), (209, _), (208, _), (207, _), (206, _), (205, _), (202, _), (29, _), (28, _), (27, _), (26, _), (10, _), (11, _), (9, _), (8, _), (7, _), (5, _), (1, _)]) rfl ?_; intro a hf
                      refine rdT hf rfl rfl rfl rfl (by first | exact hgT2 | simp [hgT2]) (yl_indexE rfl rfl Try.underlying70 sz_31 (hRc.els (.tail _ (.head _))) (by omega) (by omega)) rfl (l' := [(250, _), (249, _), (248, _), (247, _), (246, _), (245, _), (244, _), (243, _), (242, _), (241, _), (240, _), (239, _), (238, _), (237, _), (236, _), (235, _), (234, _), (233, _), (232, _), (231, _), (230, _), (229, _), (228, _), (227, _), (226, _), (225, _), (224, _), (223, _), (222, _), (221, _), (220, _), (219, _), (218, _), (217, _), (216, _), (215, _), (214, _), (213, _), (212, _), (211, _), (210, _), (209, _), (208, _), (207, _), (206, _), (205, _), (202, _), (29, _), (28, _), (27, _), (26, _), (10, _), (11, _), (9, _), (8, _), (7, _), (5, _), (1, _)]) rfl ?_; intro a hf
                      refine rdT hf rfl rfl rfl rfl (by first | exact hgT2 | simp [hgT2]) (yl_faddr Try.underlying31 rfl rfl sz_2 rfl) rfl (l' := [(251, _), (250, _), (249, _), (248, _), (247, _), (246, _), (245, _), (244, _), (243, _), (242, _), (241, _), (240, _), (239, _), (238, _), (237, _), (236, _), (235, _), (234, _), (233, _), (232, _), (231, _), (230, _), (229, _), (228, _), (227, _), (226, _), (225, _), (224, _), (223, _), (222, _), (221, _), (220, _), (219, _), (218, _), (217, _), (216, _), (215, _), (214, _), (213, _), (212, _), (211, _), (210, _), (209, _), (208, _), (207, _), (206, _), (205, _), (202, _), (29, _), (28, _), (27, _), (26, _), (10, _), (11, _), (9, _), (8, _), (7, _), (5, _), (1, _)]) rfl ?_; intro a hf
                      refine rdT hf rfl rfl rfl rfl (by first | exact hgT2 | simp [hgT2]) (yl_load Try.underlying2 rfl rfl ((hRc.els (.tail _ (.head _))).cell hj (f := 0) rfl)) rfl (l' := [(252, _), (251, _), (250, _), (249, _), (248, _), (247, _), (246, _), (245, _), (244, _), (243, _), (242, _), (241, _), (240, _), (239, _), (238, _), (237, _), (236, _), (235, _), (234, _), (233, _), (232, _), (231, _), (230, _), (229, _), (228, _), (227, _), (226, _), (225, _), (224, _), (223, _), (222, _), (221, _), (220, _), (219, _), (218, _), (217, _), (216, _), (215, _), (214, _), (213, _), (212, _), (211, _), (210, _), (209, _), (208, _), (207, _), (206, _), (205, _), (202, _), (29, _), (28, _), (27, _), (26, _), (10, _), (11, _), (9, _), (8, _), (7, _), (5, _), (1, _)]) rfl ?_; intro a hf
                      refine rdT hf rfl rfl rfl rfl (by first | exact hgT2 | simp [hgT2]) (yl_move rfl) rfl (l' := [(253, _), (252, _), (251, _), (250, _), (249, _), (248, _), (247, _), (246, _), (245, _), (244, _), (243, _), (242, _), (241, _), (240, _), (239, _), (238, _), (237, _), (236, _), (235, _), (234, _), (233, _), (232, _), (231, _), (230, _), (229, _), (228, _), (227, _), (226, _), (225, _), (224, _), (223, _), (222, _), (221, _), (220, _), (219, _), (218, _), (217, _), (216, _), (215, _), (214, _), (213, _), (212, _), (211, _), (210, _), (209, _), (208, _), (207, _), (206, _), (205, _), (202, _), (29, _), (28, _), (27, _), (26, _), (10, _), (11, _), (9, _), (8, _), (7, _), (5, _), (1, _)]) rfl ?_; intro a hf
                      refine rdT hf rfl rfl rfl rfl (by first | exact hgT2 | simp [hgT2]) (yl_move rfl) rfl (l' := [(254, _), (253, _), (252, _), (251, _), (250, _), (249, _), (248, _), (247, _), (246, _), (245, _), (244, _), (243, _), (242, _), (241, _), (240, _), (239, _), (238, _), (237, _), (236, _), (235, _), (234, _), (233, _), (232, _), (231, _), (230, _), (229, _), (228, _), (227, _), (226, _), (225, _), (224, _), (223, _), (222, _), (221, _), (220, _), (219, _), (218, _), (217, _), (216, _), (215, _), (214, _), (213, _), (212, _), (211, _), (210, _), (209, _), (208, _), (207, _), (206, _), (205, _), (202, _), (29, _), (28, _), (27, _), (26, _), (10, _), (11, _), (9, _), (8, _), (7, _), (5, _), (1, _)]) rfl ?_; intro a hf
                      refine rdT hf rfl rfl rfl rfl (by first | exact hgT2 | simp [hgT2]) (yl_sub rfl rfl (by unfold inI64; omega)) rfl (l' := [(255, _), (254, _), (253, _), (252, _), (251, _), (250, _), (249, _), (248, _), (247, _), (246, _), (245, _), (244, _), (243, _), (242, _), (241, _), (240, _), (239, _), (238, _), (237, _), (236, _), (235, _), (234, _), (233, _), (232, _), (231, _), (230, _), (229, _), (228, _), (227, _), (226, _), (225, _), (224, _), (223, _), (222, _), (221, _), (220, _), (219, _), (218, _), (217, _), (216, _), (215, _), (214, _), (213, _), (212, _), (211, _), (210, _), (209, _), (208, _), (207, _), (206, _), (205, _), (202, _), (29, _), (28, _), (27, _), (26, _), (10, _), (11, _), (9, _), (8, _), (7, _), (5, _), (1, _)]) rfl ?_; intro a hf
                      refine rdT hf rfl rfl rfl rfl (by first | exact hgT2 | simp [hgT2]) (yl_indexE rfl rfl Try.underlying70 sz_31 (hRc.els (.tail _ (.head _))) (by omega) (by omega)) rfl (l' := [(256, _), (255, _), (254, _), (253, _), (252, _), (251, _), (250, _), (249, _), (248, _), (247, _), (246, _), (245, _), (244, _), (243, _), (242, _), (241, _), (240, _), (239, _), (238, _), (237, _), (236, _), (235, _), (234, _), (233, _), (232, _), (231, _), (230, _), (229, _), (228, _), (227, _), (226, _), (225, _), (224, _), (223, _), (222, _), (221, _), (220, _), (219, _), (218, _), (217, _), (216, _), (215, _), (214, _), (213, _), (212, _), (211, _), (210, _), (209, _), (208, _), (207, _), (206, _), (205, _), (202, _), (29, _), (28, _), (27, _), (26, _), (10, _), (11, _), (9, _), (8, _), (7, _), (5, _), (1, _)]) rfl ?_; intro a hf
                      refine rdT hf rfl rfl rfl rfl (by first | exact hgT2 | simp [hgT2]) (yl_faddr Try.underlying31 rfl rfl sz_2 rfl) rfl (l' := [(257, _), (256, _), (255, _), (254, _), (253, _), (252, _), (251, _), (250, _), (249, _), (248, _), (247, _), (246, _), (245, _), (244, _), (243, _), (242, _), (241, _), (240, _), (239, _), (238, _), (237, _), (236, _), (235, _), (234, _), (233, _), (232, _), (231, _), (230, _), (229, _), (228, _), (227, _), (226, _), (225, _), (224, _), (223, _), (222, _), (221, _), (220, _), (219, _), (218, _), (217, _), (216, _), (215, _), (214, _), (213, _), (212, _), (211, _), (210, _), (209, _), (208, _), (207, _), (206, _), (205, _), (202, _), (29, _), (28, _), (27, _), (26, _), (10, _), (11, _), (9, _), (8, _), (7, _), (5, _), (1, _)]) rfl ?_; intro a hf
                      refine rdT hf rfl rfl rfl rfl (by first | exact hgT2 | simp [hgT2]) (yl_load Try.underlying2 rfl rfl ((hRc.els (.tail _ (.head _))).cell hjp (f := 0) rfl)) rfl (l' := [(258, _), (257, _), (256, _), (255, _), (254, _), (253, _), (252, _), (251, _), (250, _), (249, _), (248, _), (247, _), (246, _), (245, _), (244, _), (243, _), (242, _), (241, _), (240, _), (239, _), (238, _), (237, _), (236, _), (235, _), (234, _), (233, _), (232, _), (231, _), (230, _), (229, _), (228, _), (227, _), (226, _), (225, _), (224, _), (223, _), (222, _), (221, _), (220, _), (219, _), (218, _), (217, _), (216, _), (215, _), (214, _), (213, _), (212, _), (211, _), (210, _), (209, _), (208, _), (207, _), (206, _), (205, _), (202, _), (29, _), (28, _), (27, _), (26, _), (10, _), (11, _), (9, _), (8, _), (7, _), (5, _), (1, _)]) rfl ?_; intro a hf
                      refine rdT hf rfl rfl rfl rfl (by first | exact hgT2 | simp [hgT2]) (yl_cmp rfl rfl rfl) rfl (l' := [(259, _), (258, _), (257, _), (256, _), (255, _), (254, _), (253, _), (252, _), (251, _), (250, _), (249, _), (248, _), (247, _), (246, _), (245, _), (244, _), (243, _), (242, _), (241, _), (240, _), (239, _), (238, _), (237, _), (236, _), (235, _), (234, _), (233, _), (232, _), (231, _), (230, _), (229, _), (228, _), (227, _), (226, _), (225, _), (224, _), (223, _), (222, _), (221, _), (220, _), (219, _), (218, _), (217, _), (216, _), (215, _), (214, _), (213, _), (212, _), (211, _), (210, _), (209, _), (208, _), (207, _), (206, _), (205, _), (202, _), (29, _), (28, _), (27, _), (26, _), (10, _), (11, _), (9, _), (8, _), (7, _), (5, _), (1, _)]) rfl ?_; intro a hf
                      refine rdT hf rfl rfl rfl rfl (rfl) (yl_pickTT rfl hgT2 rfl) rfl (l' := [(260, _), (259, _), (258, _), (257, _), (256, _), (255, _), (254, _), (253, _), (252, _), (251, _), (250, _), (249, _), (248, _), (247, _), (246, _), (245, _), (244, _), (243, _), (242, _), (241, _), (240, _), (239, _), (238, _), (237, _), (236, _), (235, _), (234, _), (233, _), (232, _), (231, _), (230, _), (229, _), (228, _), (227, _), (226, _), (225, _), (224, _), (223, _), (222, _), (221, _), (220, _), (219, _), (218, _), (217, _), (216, _), (215, _), (214, _), (213, _), (212, _), (211, _), (210, _), (209, _), (208, _), (207, _), (206, _), (205, _), (202, _), (29, _), (28, _), (27, _), (26, _), (10, _), (11, _), (9, _), (8, _), (7, _), (5, _), (1, _)]) rfl ?_; intro a hf
                      refine rd hf rfl (yl_pickFF rfl rfl rfl) rfl rfl ?_; intro a hf
                      refine plan_nil ?_
                      replace hf := hf.sel [261, 29, 28, 27, 26, 10, 11, 9, 8, 7, 5, 1] (l' := [(261, _), (29, _), (28, _), (27, _), (26, _), (10, _), (11, _), (9, _), (8, _), (7, _), (5, _), (1, _)]) rfl
                      refine wp_ifd hf rfl (fun hbad => ?_) (fun hbad => ?_)
                      · -- then
                        exact absurd hbad (by omega)
                      · -- else
                        refine wpIn_skip ?_
                        -- region 60 (outright.go:242)
                        refine wp_reg ([_]) ([_, _, _, _, _, _, _, _, _, _, _, _, _] ++ rs) [(0, false), (1, false), (2, false), (3, false), (4, false), (5, false), (6, false), (7, false)] mixed (by kernel_rfl) (hT.brings [0]) ?_; intro w hT
                        refine ef hf hT rfl rfl (ef_read (yl_move rfl)) rfl (l' := [(261, _), (29, _), (28, _), (27, _), (26, _), (10, _), (11, _), (9, _), (8, _), (7, _), (5, _), (1, _)]) rfl ?_; rintro a w v L ⟨rfl, rfl⟩ hf hT
                        refine ef hf hT rfl rfl (ef_read (yl_move rfl)) rfl (l' := [(262, _), (261, _), (29, _), (28, _), (27, _), (26, _), (10, _), (11, _), (9, _), (8, _), (7, _), (5, _), (1, _)]) rfl ?_; rintro a w v L ⟨rfl, rfl⟩ hf hT
                        refine ef hf hT rfl rfl (ef_read (yl_move rfl)) rfl (l' := [(263, _), (262, _), (261, _), (29, _), (28, _), (27, _), (26, _), (10, _), (11, _), (9, _), (8, _), (7, _), (5, _), (1, _)]) rfl ?_; rintro a w v L ⟨rfl, rfl⟩ hf hT
                        refine ef hf hT rfl rfl (ef_read (yl_indexE rfl rfl Try.underlying70 sz_31 (hRc.els (.tail _ (.head _))) (by omega) (by omega))) rfl (l' := [(264, _), (263, _), (262, _), (261, _), (29, _), (28, _), (27, _), (26, _), (10, _), (11, _), (9, _), (8, _), (7, _), (5, _), (1, _)]) rfl ?_; rintro a w v L ⟨rfl, rfl⟩ hf hT
                        refine ef hf hT rfl rfl (ef_read (yl_faddr Try.underlying31 rfl rfl sz_2 rfl)) rfl (l' := [(265, _), (264, _), (263, _), (262, _), (261, _), (29, _), (28, _), (27, _), (26, _), (10, _), (11, _), (9, _), (8, _), (7, _), (5, _), (1, _)]) rfl ?_; rintro a w v L ⟨rfl, rfl⟩ hf hT
                        refine ef hf hT rfl rfl (ef_read (yl_load Try.underlying2 rfl rfl ((hRc.els (.tail _ (.head _))).cell hj (f := 0) rfl))) rfl (l' := [(266, _), (265, _), (264, _), (263, _), (262, _), (261, _), (29, _), (28, _), (27, _), (26, _), (10, _), (11, _), (9, _), (8, _), (7, _), (5, _), (1, _)]) rfl ?_; rintro a w v L ⟨rfl, rfl⟩ hf hT
                        refine ef hf hT rfl rfl (ef_read (yl_indexE rfl rfl Try.underlying98 sz_4 (hAR.els (.head _)) (by omega) (by omega))) rfl (l' := [(267, _), (266, _), (265, _), (264, _), (263, _), (262, _), (261, _), (29, _), (28, _), (27, _), (26, _), (10, _), (11, _), (9, _), (8, _), (7, _), (5, _), (1, _)]) rfl ?_; rintro a w v L ⟨rfl, rfl⟩ hf hT
                        refine efS hf hT rfl rfl (ef_storeEl (E := encB) (j := r.id.toNat) (f := 0) (a' := true) rfl rfl sz_4 rfl hAR (hja) (by decide) rfl) ?_; rintro w L ⟨X2, hS2, rfl⟩ hT
                        refine plan_nil ?_
                        replace hf := hf.sel [29, 28, 27, 26, 10, 11, 9, 8, 7, 5, 1] (l' := [(29, _), (28, _), (27, _), (26, _), (10, _), (11, _), (9, _), (8, _), (7, _), (5, _), (1, _)]) rfl
                        -- region 57 (outright.go:238)
                        refine wp_reg ([]) ([_, _, _, _, _, _, _, _, _, _, _, _, _, _] ++ rs) [(0, true), (1, true), (2, true)] mixed (by kernel_rfl) (hT) ?_; intro w hT
                        refine rd hf rfl (yl_move rfl) rfl rfl ?_; intro a hf
                        refine rd hf rfl (yl_add rfl rfl (by unfold inI64; omega)) rfl rfl ?_; intro a hf
                        refine rw_ hf rfl (yl_assign rfl) rfl (l' := [(29, _), (204, _), (203, _), (28, _), (27, _), (26, _), (10, _), (11, _), (9, _), (8, _), (7, _), (5, _), (1, _)]) rfl ?_; intro a hf
                        refine plan_nil ?_
                        exact ⟨(k + 1, ar.set r.id.toNat true), _, hf.sel [29, 28, 27, 26, 10, 11, 9, 8, 7, 5, 1] rfl, ⟨by rw [List.length_set]; exact harl, by omega, fun u => by rw [set_true (by omega), har, List.take_succ_eq_append_getElem hkr, List.mem_append, hrk', List.mem_singleton]; constructor; rintro (h | h); exact .inr (by omega); exact .inl h; rintro (h | h); exact .inr h; exact .inl (by omega), _, hS2, rfl⟩, hT, by first | omega | (dsimp only; omega)⟩
                    · have hgT2 : decide ((0 : Int) < ((k : Nat) : Int)) = false := by simpa using hg42
                      refine rdF hf rfl rfl rfl rfl (by first | exact hgT2 | simp [hgT2]) rfl (l' := [(248, _), (247, _), (246, _), (245, _), (244, _), (243, _), (242, _), (241, _), (240, _), (239, _), (238, _), (237, _), (236, _), (235, _), (234, _), (233, _), (232, _), (231, _), (230, _), (229, _), (228, _), (227, _), (226, _), (225, _), (224, _), (223, _), (222, _), (221, _), (220, _), (219, _), (218, _), (217, _), (216, _), (215, _), (214, _), (213, _), (212, _), (211, _), (210, _), (209, _), (208, _), (207, _), (206, _), (205, _), (202, _), (29, _), (28, _), (27, _), (26, _), (10, _), (11, _), (9, _), (8, _), (7, _), (5, _), (1, _)]) rfl ?_; intro a hf
                      refine rdF hf rfl rfl rfl rfl (by first | exact hgT2 | simp [hgT2]) rfl (l' := [(249, _), (248, _), (247, _), (246, _), (245, _), (244, _), (243, _), (242, _), (241, _), (240, _), (239, _), (238, _), (237, _), (236, _), (235, _), (234, _), (233, _), (232, _), (231, _), (230, _), (229, _), (228, _), (227, _), (226, _), (225, _), (224, _), (223, _), (222, _), (221, _), (220, _), (219, _), (218, _), (217, _), (216, _), (215, _), (214, _), (213, _), (212, _), (211, _), (210, _), (209, _), (208, _), (207, _), (206, _), (205, _), (202, _), (29, _), (28, _), (27, _), (26, _), (10, _), (11, _), (9, _), (8, _), (7, _), (5, _), (1, _)]) rfl ?_; intro a hf
                      refine rdF hf rfl rfl rfl rfl (by first | exact hgT2 | simp [hgT2]) rfl (l' := [(250, _), (249, _), (248, _), (247, _), (246, _), (245, _), (244, _), (243, _), (242, _), (241, _), (240, _), (239, _), (238, _), (237, _), (236, _), (235, _), (234, _), (233, _), (232, _), (231, _), (230, _), (229, _), (228, _), (227, _), (226, _), (225, _), (224, _), (223, _), (222, _), (221, _), (220, _), (219, _), (218, _), (217, _), (216, _), (215, _), (214, _), (213, _), (212, _), (211, _), (210, _), (209, _), (208, _), (207, _), (206, _), (205, _), (202, _), (29, _), (28, _), (27, _), (26, _), (10, _), (11, _), (9, _), (8, _), (7, _), (5, _), (1, _)]) rfl ?_; intro a hf
                      refine rdF hf rfl rfl rfl rfl (by first | exact hgT2 | simp [hgT2]) rfl (l' := [(251, _), (250, _), (249, _), (248, _), (247, _), (246, _), (245, _), (244, _), (243, _), (242, _), (241, _), (240, _), (239, _), (238, _), (237, _), (236, _), (235, _), (234, _), (233, _), (232, _), (231, _), (230, _), (229, _), (228, _), (227, _), (226, _), (225, _), (224, _), (223, _), (222, _), (221, _), (220, _), (219, _), (218, _), (217, _), (216, _), (215, _), (214, _), (213, _), (212, _), (211, _), (210, _), (209, _), (208, _), (207, _), (206, _), (205, _), (202, _), (29, _), (28, _), (27, _), (26, _), (10, _), (11, _), (9, _), (8, _), (7, _), (5, _), (1, _)]) rfl ?_; intro a hf
                      refine rdF hf rfl rfl rfl rfl (by first | exact hgT2 | simp [hgT2]) rfl (l' := [(252, _), (251, _), (250, _), (249, _), (248, _), (247, _), (246, _), (245, _), (244, _), (243, _), (242, _), (241, _), (240, _), (239, _), (238, _), (237, _), (236, _), (235, _), (234, _), (233, _), (232, _), (231, _), (230, _), (229, _), (228, _), (227, _), (226, _), (225, _), (224, _), (223, _), (222, _), (221, _), (220, _), (219, _), (218, _), (217, _), (216, _), (215, _), (214, _), (213, _), (212, _), (211, _), (210, _), (209, _), (208, _), (207, _), (206, _), (205, _), (202, _), (29, _), (28, _), (27, _), (26, _), (10, _), (11, _), (9, _), (8, _), (7, _), (5, _), (1, _)]) rfl ?_; intro a hf
                      refine rdF hf rfl rfl rfl rfl (by first | exact hgT2 | simp [hgT2]) rfl (l' := [(253, _), (252, _), (251, _), (250, _), (249, _), (248, _), (247, _), (246, _), (245, _), (244, _), (243, _), (242, _), (241, _), (240, _), (239, _), (238, _), (237, _), (236, _), (235, _), (234, _), (233, _), (232, _), (231, _), (230, _), (229, _), (228, _), (227, _), (226, _), (225, _), (224, _), (223, _), (222, _), (221, _), (220, _), (219, _), (218, _), (217, _), (216, _), (215, _), (214, _), (213, _), (212, _), (211, _), (210, _), (209, _), (208, _), (207, _), (206, _), (205, _), (202, _), (29, _), (28, _), (27, _), (26, _), (10, _), (11, _), (9, _), (8, _), (7, _), (5, _), (1, _)]) rfl ?_; intro a hf
                      refine rdF hf rfl rfl rfl rfl (by first | exact hgT2 | simp [hgT2]) rfl (l' := [(254, _), (253, _), (252, _), (251, _), (250, _), (249, _), (248, _), (247, _), (246, _), (245, _), (244, _), (243, _), (242, _), (241, _), (240, _), (239, _), (238, _), (237, _), (236, _), (235, _), (234, _), (233, _), (232, _), (231, _), (230, _), (229, _), (228, _), (227, _), (226, _), (225, _), (224, _), (223, _), (222, _), (221, _), (220, _), (219, _), (218, _), (217, _), (216, _), (215, _), (214, _), (213, _), (212, _), (211, _), (210, _), (209, _), (208, _), (207, _), (206, _), (205, _), (202, _), (29, _), (28, _), (27, _), (26, _), (10, _), (11, _), (9, _), (8, _), (7, _), (5, _), (1, _)]) rfl ?_; intro a hf
                      refine rdF hf rfl rfl rfl rfl (by first | exact hgT2 | simp [hgT2]) rfl (l' := [(255, _), (254, _), (253, _), (252, _), (251, _), (250, _), (249, _), (248, _), (247, _), (246, _), (245, _), (244, _), (243, _), (242, _), (241, _), (240, _), (239, _), (238, _), (237, _), (236, _), (235, _), (234, _), (233, _), (232, _), (231, _), (230, _), (229, _), (228, _), (227, _), (226, _), (225, _), (224, _), (223, _), (222, _), (221, _), (220, _), (219, _), (218, _), (217, _), (216, _), (215, _), (214, _), (213, _), (212, _), (211, _), (210, _), (209, _), (208, _), (207, _), (206, _), (205, _), (202, _), (29, _), (28, _), (27, _), (26, _), (10, _), (11, _), (9, _), (8, _), (7, _), (5, _), (1, _)]) rfl ?_; intro a hf
                      refine rdF hf rfl rfl rfl rfl (by first | exact hgT2 | simp [hgT2]) rfl (l' := [(256, _), (255, _), (254, _), (253, _), (252, _), (251, _), (250, _), (249, _), (248, _), (247, _), (246, _), (245, _), (244, _), (243, _), (242, _), (241, _), (240, _), (239, _), (238, _), (237, _), (236, _), (235, _), (234, _), (233, _), (232, _), (231, _), (230, _), (229, _), (228, _), (227, _), (226, _), (225, _), (224, _), (223, _), (222, _), (221, _), (220, _), (219, _), (218, _), (217, _), (216, _), (215, _), (214, _), (213, _), (212, _), (211, _), (210, _), (209, _), (208, _), (207, _), (206, _), (205, _), (202, _), (29, _), (28, _), (27, _), (26, _), (10, _), (11, _), (9, _), (8, _), (7, _), (5, _), (1, _)]) rfl ?_; intro a hf
                      refine rdF hf rfl rfl rfl rfl (by first | exact hgT2 | simp [hgT2]) rfl (l' := [(257, _), (256, _), (255, _), (254, _), (253, _), (252, _), (251, _), (250, _), (249, _), (248, _), (247, _), (246, _), (245, _), (244, _), (243, _), (242, _), (241, _), (240, _), (239, _), (238, _), (237, _), (236, _), (235, _), (234, _), (233, _), (232, _), (231, _), (230, _), (229, _), (228, _), (227, _), (226, _), (225, _), (224, _), (223, _), (222, _), (221, _), (220, _), (219, _), (218, _), (217, _), (216, _), (215, _), (214, _), (213, _), (212, _), (211, _), (210, _), (209, _), (208, _), (207, _), (206, _), (205, _), (202, _), (29, _), (28, _), (27, _), (26, _), (10, _), (11, _), (9, _), (8, _), (7, _), (5, _), (1, _)]) rfl ?_; intro a hf
                      refine rdF hf rfl rfl rfl rfl (by first | exact hgT2 | simp [hgT2]) rfl (l' := [(258, _), (257, _), (256, _), (255, _), (254, _), (253, _), (252, _), (251, _), (250, _), (249, _), (248, _), (247, _), (246, _), (245, _), (244, _), (243, _), (242, _), (241, _), (240, _), (239, _), (238, _), (237, _), (236, _), (235, _), (234, _), (233, _), (232, _), (231, _), (230, _), (229, _), (228, _), (227, _), (226, _), (225, _), (224, _), (223, _), (222, _), (221, _), (220, _), (219, _), (218, _), (217, _), (216, _), (215, _), (214, _), (213, _), (212, _), (211, _), (210, _), (209, _), (208, _), (207, _), (206, _), (205, _), (202, _), (29, _), (28, _), (27, _), (26, _), (10, _), (11, _), (9, _), (8, _), (7, _), (5, _), (1, _)]) rfl ?_; intro a hf
                      refine rdF hf rfl rfl rfl rfl (by first | exact hgT2 | simp [hgT2]) rfl (l' := [(259, _), (258, _), (257, _), (256, _), (255, _), (254, _), (253, _), (252, _), (251, _), (250, _), (249, _), (248, _), (247, _), (246, _), (245, _), (244, _), (243, _), (242, _), (241, _), (240, _), (239, _), (238, _), (237, _), (236, _), (235, _), (234, _), (233, _), (232, _), (231, _), (230, _), (229, _), (228, _), (227, _), (226, _), (225, _), (224, _), (223, _), (222, _), (221, _), (220, _), (219, _), (218, _), (217, _), (216, _), (215, _), (214, _), (213, _), (212, _), (211, _), (210, _), (209, _), (208, _), (207, _), (206, _), (205, _), (202, _), (29, _), (28, _), (27, _), (26, _), (10, _), (11, _), (9, _), (8, _), (7, _), (5, _), (1, _)]) rfl ?_; intro a hf
                      refine rdT hf rfl rfl rfl rfl (rfl) (yl_pickFF rfl hgT2 rfl) rfl (l' := [(260, _), (259, _), (258, _), (257, _), (256, _), (255, _), (254, _), (253, _), (252, _), (251, _), (250, _), (249, _), (248, _), (247, _), (246, _), (245, _), (244, _), (243, _), (242, _), (241, _), (240, _), (239, _), (238, _), (237, _), (236, _), (235, _), (234, _), (233, _), (232, _), (231, _), (230, _), (229, _), (228, _), (227, _), (226, _), (225, _), (224, _), (223, _), (222, _), (221, _), (220, _), (219, _), (218, _), (217, _), (216, _), (215, _), (214, _), (213, _), (212, _), (211, _), (210, _), (209, _), (208, _), (207, _), (206, _), (205, _), (202, _), (29, _), (28, _), (27, _), (26, _), (10, _), (11, _), (9, _), (8, _), (7, _), (5, _), (1, _)]) rfl ?_; intro a hf
                      refine rd hf rfl (yl_pickFF rfl rfl rfl) rfl rfl ?_; intro a hf
                      refine plan_nil ?_
                      replace hf := hf.sel [261, 29, 28, 27, 26, 10, 11, 9, 8, 7, 5, 1] (l' := [(261, _), (29, _), (28, _), (27, _), (26, _), (10, _), (11, _), (9, _), (8, _), (7, _), (5, _), (1, _)]) rfl
                      refine wp_ifFF hf rfl (rfl) ?_
                      refine wpIn_skip ?_
                      -- region 60 (outright.go:242)
                      refine wp_reg ([_]) ([_, _, _, _, _, _, _, _, _, _, _, _, _] ++ rs) [(0, false), (1, false), (2, false), (3, false), (4, false), (5, false), (6, false), (7, false)] mixed (by kernel_rfl) (hT.brings [0]) ?_; intro w hT
                      refine ef hf hT rfl rfl (ef_read (yl_move rfl)) rfl (l' := [(261, _), (29, _), (28, _), (27, _), (26, _), (10, _), (11, _), (9, _), (8, _), (7, _), (5, _), (1, _)]) rfl ?_; rintro a w v L ⟨rfl, rfl⟩ hf hT
                      refine ef hf hT rfl rfl (ef_read (yl_move rfl)) rfl (l' := [(262, _), (261, _), (29, _), (28, _), (27, _), (26, _), (10, _), (11, _), (9, _), (8, _), (7, _), (5, _), (1, _)]) rfl ?_; rintro a w v L ⟨rfl, rfl⟩ hf hT
                      refine ef hf hT rfl rfl (ef_read (yl_move rfl)) rfl (l' := [(263, _), (262, _), (261, _), (29, _), (28, _), (27, _), (26, _), (10, _), (11, _), (9, _), (8, _), (7, _), (5, _), (1, _)]) rfl ?_; rintro a w v L ⟨rfl, rfl⟩ hf hT
                      refine ef hf hT rfl rfl (ef_read (yl_indexE rfl rfl Try.underlying70 sz_31 (hRc.els (.tail _ (.head _))) (by omega) (by omega))) rfl (l' := [(264, _), (263, _), (262, _), (261, _), (29, _), (28, _), (27, _), (26, _), (10, _), (11, _), (9, _), (8, _), (7, _), (5, _), (1, _)]) rfl ?_; rintro a w v L ⟨rfl, rfl⟩ hf hT
                      refine ef hf hT rfl rfl (ef_read (yl_faddr Try.underlying31 rfl rfl sz_2 rfl)) rfl (l' := [(265, _), (264, _), (263, _), (262, _), (261, _), (29, _), (28, _), (27, _), (26, _), (10, _), (11, _), (9, _), (8, _), (7, _), (5, _), (1, _)]) rfl ?_; rintro a w v L ⟨rfl, rfl⟩ hf hT
                      refine ef hf hT rfl rfl (ef_read (yl_load Try.underlying2 rfl rfl ((hRc.els (.tail _ (.head _))).cell hj (f := 0) rfl))) rfl (l' := [(266, _), (265, _), (264, _), (263, _), (262, _), (261, _), (29, _), (28, _), (27, _), (26, _), (10, _), (11, _), (9, _), (8, _), (7, _), (5, _), (1, _)]) rfl ?_; rintro a w v L ⟨rfl, rfl⟩ hf hT
                      refine ef hf hT rfl rfl (ef_read (yl_indexE rfl rfl Try.underlying98 sz_4 (hAR.els (.head _)) (by omega) (by omega))) rfl (l' := [(267, _), (266, _), (265, _), (264, _), (263, _), (262, _), (261, _), (29, _), (28, _), (27, _), (26, _), (10, _), (11, _), (9, _), (8, _), (7, _), (5, _), (1, _)]) rfl ?_; rintro a w v L ⟨rfl, rfl⟩ hf hT
                      refine efS hf hT rfl rfl (ef_storeEl (E := encB) (j := r.id.toNat) (f := 0) (a' := true) rfl rfl sz_4 rfl hAR (hja) (by decide) rfl) ?_; rintro w L ⟨X3, hS3, rfl⟩ hT
                      refine plan_nil ?_
                      replace hf := hf.sel [29, 28, 27, 26, 10, 11, 9, 8, 7, 5, 1] (l' := [(29, _), (28, _), (27, _), (26, _), (10, _), (11, _), (9, _), (8, _), (7, _), (5, _), (1, _)]) rfl
                      -- region 57 (outright.go:238)
                      refine wp_reg ([]) ([_, _, _, _, _, _, _, _, _, _, _, _, _, _] ++ rs) [(0, true), (1, true), (2, true)] mixed (by kernel_rfl) (hT) ?_; intro w hT
                      refine rd hf rfl (yl_move rfl) rfl rfl ?_; intro a hf
                      refine rd hf rfl (yl_add rfl rfl (by unfold inI64; omega)) rfl rfl ?_; intro a hf
                      refine rw_ hf rfl (yl_assign rfl) rfl (l' := [(29, _), (204, _), (203, _), (28, _), (27, _), (26, _), (10, _), (11, _), (9, _), (8, _), (7, _), (5, _), (1, _)]) rfl ?_; intro a hf
                      refine plan_nil ?_
                      exact ⟨(k + 1, ar.set r.id.toNat true), _, hf.sel [29, 28, 27, 26, 10, 11, 9, 8, 7, 5, 1] rfl, ⟨by rw [List.length_set]; exact harl, by omega, fun u => by rw [set_true (by omega), har, List.take_succ_eq_append_getElem hkr, List.mem_append, hrk', List.mem_singleton]; constructor; rintro (h | h); exact .inr (by omega); exact .inl h; rintro (h | h); exact .inr h; exact .inl (by omega), _, hS3, rfl⟩, hT, by first | omega | (dsimp only; omega)⟩
                  · -- else
                    obtain rfl : k = xs.length := by omega
                    rw [show (rids xs).take xs.length = rids xs from List.take_of_length_le (by simp [rids])] at har
                    refine wpIn_exit ?_
                    refine then_exit ?_
                    refine then_exit ?_
                    refine inBlock_hit ?_
                    refine wpIn_seq ?_
                    -- region 61 (outright.go:244)
                    refine wp_reg ([]) ([_, _, _, _, _, _, _, _, _, _, _, _, _, _] ++ rs) [(0, true)] mixed (by kernel_rfl) (hT) ?_; intro w hT
                    refine rd hf rfl (yl_assign rfl) rfl rfl ?_; intro a hf
                    refine plan_nil ?_
                    replace hf := hf.sel [30, 28, 26, 10, 11, 9, 8, 7, 5, 1] (l' := [(30, _), (28, _), (26, _), (10, _), (11, _), (9, _), (8, _), (7, _), (5, _), (1, _)]) rfl
                    refine wpIn_block ?_
                    refine wp_loopS (σ := Nat) (fun j => [(30, .int .i64 (j : Nat))]) [(28, _), (26, _), (10, _), (11, _), (9, _), (8, _), (7, _), (5, _), (1, _)] (fun j L => L = [] ∧ (j : Int) ≤ N) (fun j => N.toNat - j) 0 (L := []) (R := [_, _, _, _, _, _, _, _, _, _, _, _, _, _] ++ rs) (hf.sel [30, 28, 26, 10, 11, 9, 8, 7, 5, 1] rfl) (⟨rfl, by have := hon2.n0; omega⟩) hT ?_
                    clear hf hT; rintro j a w L hf ⟨rfl, hjN⟩ hT
                    replace hf : Fr _ [(30, .int .i64 (j : Nat)), (28, _), (26, _), (10, _), (11, _), (9, _), (8, _), (7, _), (5, _), (1, _)] _ _ := hf
                    refine wpIn_seq ?_
                    refine wpIn_seq ?_
                    -- region 62 (outright.go:244)
                    refine wp_reg ([]) ([_, _, _, _, _, _, _, _, _, _, _, _, _, _] ++ rs) [(0, true), (1, true), (2, true)] mixed (by kernel_rfl) (hT) ?_; intro w hT
                    refine rd hf rfl (yl_move rfl) rfl rfl ?_; intro a hf
                    refine rd hf rfl (yl_move rfl) rfl rfl ?_; intro a hf
                    refine rd hf rfl (yl_cmp rfl rfl rfl) rfl rfl ?_; intro a hf
                    refine plan_nil ?_
                    refine wp_ifd hf rfl (fun hltj => ?_) (fun hltj => ?_)
                    · -- then
                      have hgl2 := hon2.gl
                      have hjN2 : (j : Int) < N := by omega
                      obtain ⟨ba, hja⟩ := get_lt harl (k := (j : Int)) (by omega) (by omega)
                      obtain ⟨bg, hjg⟩ := get_lt hon2.gl (k := (j : Int)) (by omega) (by omega)
                      refine wpIn_skip ?_
                      refine wpIn_seq ?_
                      refine wpIn_block ?_
                      refine wpIn_seq ?_
                      rcases hq : assoc m (j : Int) with _ | y
                      · skip
                        -- region 64 (outright.go:245)
                        refine wp_reg ([]) ([_, _, _, _, _, _, _, _, _, _, _, _, _, _] ++ rs) [(0, true), (1, true), (2, true), (3, true), (4, true), (5, true), (6, false), (7, false), (8, true)] mixed (by kernel_rfl) (hT) ?_; intro w hT
                        refine rd hf rfl (yl_move rfl) rfl rfl ?_; intro a hf
                        refine rd hf rfl (yl_move rfl) rfl rfl ?_; intro a hf
                        refine rd hf rfl (yl_lookupOkE kI Try.underlying29 zr_31 rfl rfl ⟨_, .tail _ (.tail _ (.tail _ (.tail _ (.tail _ (.tail _ (.tail _ (.tail _ (.tail _ (.tail _ (.tail _ (.head _))))))))))), hMA⟩ (show _ = encR ⟨0, 0, 0, 0, 0⟩ from by rw [hq]; rfl) (show _ = false from by rw [hq]; rfl)) rfl rfl ?_; intro a hf
                        refine rd hf rfl (yl_move rfl) rfl rfl ?_; intro a hf
                        refine rd hf rfl (yl_extract rfl rfl) rfl rfl ?_; intro a hf
                        refine rd hf rfl (yl_extract rfl rfl) rfl rfl ?_; intro a hf
                        refine ef hf hT rfl rfl (ef_alloc zr_31) rfl (l' := [(279, _), (278, _), (274, _), (277, _), (276, _), (275, _), (271, _), (270, _), (269, _), (30, _), (28, _), (26, _), (10, _), (11, _), (9, _), (8, _), (7, _), (5, _), (1, _)]) rfl ?_; rintro a w v L ⟨b4, rfl, rfl⟩ hf hT
                        refine efS hf hT rfl rfl (ef_storeW rfl rfl sz_31 rfl rfl rfl) ?_; rintro w L rfl hT
                        refine rd hf rfl (yl_assign rfl) rfl rfl ?_; intro a hf
                        refine plan_nil ?_
                        replace hf := hf.sel [32, 30, 28, 26, 10, 11, 9, 8, 7, 5, 1] (l' := [(32, _), (30, _), (28, _), (26, _), (10, _), (11, _), (9, _), (8, _), (7, _), (5, _), (1, _)]) rfl
                        refine wpIn_seq ?_
                        -- region 65 (outright.go:246)
                        refine wp_reg ([]) ([_, _, _, _, _, _, _, _, _, _, _, _, _, _, _] ++ rs) [(0, true), (1, true), (2, true), (3, true), (4, false), (5, true), (6, true), (7, true), (8, true), (9, true), (10, true), (11, true), (12, true), (13, true), (14, true), (15, true), (16, true), (17, true), (18, true), (19, true), (20, true)] mixed (by kernel_rfl) (hT) ?_; intro w hT
                        refine rd hf rfl (yl_move rfl) rfl rfl ?_; intro a hf
                        refine rd hf rfl (yl_move rfl) rfl rfl ?_; intro a hf
                        refine rdF hf rfl rfl rfl rfl (rfl) rfl (l' := [(282, _), (281, _), (280, _), (32, _), (30, _), (28, _), (26, _), (10, _), (11, _), (9, _), (8, _), (7, _), (5, _), (1, _)]) rfl ?_; intro a hf
                        refine rdF hf rfl rfl rfl rfl (rfl) rfl (l' := [(283, _), (282, _), (281, _), (280, _), (32, _), (30, _), (28, _), (26, _), (10, _), (11, _), (9, _), (8, _), (7, _), (5, _), (1, _)]) rfl ?_; intro a hf
                        refine efF hf rfl rfl rfl rfl (rfl) hT.allR (by simp [Nat.blt]) (l' := [(284, _), (283, _), (282, _), (281, _), (280, _), (32, _), (30, _), (28, _), (26, _), (10, _), (11, _), (9, _), (8, _), (7, _), (5, _), (1, _)]) rfl ?_; intro a hf
                        refine rdF hf rfl rfl rfl rfl (rfl) rfl (l' := [(285, _), (284, _), (283, _), (282, _), (281, _), (280, _), (32, _), (30, _), (28, _), (26, _), (10, _), (11, _), (9, _), (8, _), (7, _), (5, _), (1, _)]) rfl ?_; intro a hf
                        refine rd hf rfl (yl_pickFF rfl rfl rfl) rfl rfl ?_; intro a hf
                        refine rd hf rfl (yl_move rfl) rfl rfl ?_; intro a hf
                        refine rdF hf rfl rfl rfl rfl (rfl) rfl (l' := [(288, _), (287, _), (286, _), (285, _), (284, _), (283, _), (282, _), (281, _), (280, _), (32, _), (30, _), (28, _), (26, _), (10, _), (11, _), (9, _), (8, _), (7, _), (5, _), (1, _)]) rfl ?_; intro a hf
                        refine rdF hf rfl rfl rfl rfl (rfl) rfl (l' := [(289, _), (288, _), (287, _), (286, _), (285, _), (284, _), (283, _), (282, _), (281, _), (280, _), (32, _), (30, _), (28, _), (26, _), (10, _), (11, _), (9, _), (8, _), (7, _), (5, _), (1, _)]) rfl ?_; intro a hf
                        refine rdF hf rfl rfl rfl rfl (rfl) rfl (l' := [(290, _), (289, _), (288, _), (287, _), (286, _), (285, _), (284, _), (283, _), (282, _), (281, _), (280, _), (32, _), (30, _), (28, _), (26, _), (10, _), (11, _), (9, _), (8, _), (7, _), (5, _), (1, _)]) rfl ?_; intro a hf
                        refine rdF hf rfl rfl rfl rfl (rfl) rfl (l' := [(291, _), (290, _), (289, _), (288, _), (287, _), (286, _), (285, _), (284, _), (283, _), (282, _), (281, _), (280, _), (32, _), (30, _), (28, _), (26, _), (10, _), (11, _), (9, _), (8, _), (7, _), (5, _), (1, _)]) rfl ?_; intro a hf
                        refine rdF hf rfl rfl rfl rfl (rfl) rfl (l' := [(292, _), (291, _), (290, _), (289, _), (288, _), (287, _), (286, _), (285, _), (284, _), (283, _), (282, _), (281, _), (280, _), (32, _), (30, _), (28, _), (26, _), (10, _), (11, _), (9, _), (8, _), (7, _), (5, _), (1, _)]) rfl ?_; intro a hf
                        refine rd hf rfl (yl_pickFF rfl rfl rfl) rfl rfl ?_; intro a hf
                        refine rd hf rfl (yl_move rfl) rfl rfl ?_; intro a hf
                        refine rdF hf rfl rfl rfl rfl (rfl) rfl (l' := [(295, _), (294, _), (293, _), (292, _), (291, _), (290, _), (289, _), (288, _), (287, _), (286, _), (285, _), (284, _), (283, _), (282, _), (281, _), (280, _), (32, _), (30, _), (28, _), (26, _), (10, _), (11, _), (9, _), (8, _), (7, _), (5, _), (1, _)]) rfl ?_; intro a hf
                        refine rdF hf rfl rfl rfl rfl (rfl) rfl (l' := [(296, _), (295, _), (294, _), (293, _), (292, _), (291, _), (290, _), (289, _), (288, _), (287, _), (286, _), (285, _), (284, _), (283, _), (282, _), (281, _), (280, _), (32, _), (30, _), (28, _), (26, _), (10, _), (11, _), (9, _), (8, _), (7, _), (5, _), (1, _)]) rfl ?_; intro a hf
                        refine rdF hf rfl rfl rfl rfl (rfl) rfl (l' := [(297, _), (296, _), (295, _), (294, _), (293, _), (292, _), (291, _), (290, _), (289, _), (288, _), (287, _), (286, _), (285, _), (284, _), (283, _), (282, _), (281, _), (280, _), (32, _), (30, _), (28, _), (26, _), (10, _), (11, _), (9, _), (8, _), (7, _), (5, _), (1, _)]) rfl ?_; intro a hf
                        refine rdF hf rfl rfl rfl rfl (rfl) rfl (l' := [(298, _), (297, _), (296, _), (295, _), (294, _), (293, _), (292, _), (291, _), (290, _), (289, _), (288, _), (287, _), (286, _), (285, _), (284, _), (283, _), (282, _), (281, _), (280, _), (32, _), (30, _), (28, _), (26, _), (10, _), (11, _), (9, _), (8, _), (7, _), (5, _), (1, _)]) rfl ?_; intro a hf
                        refine rdF hf rfl rfl rfl rfl (rfl) rfl (l' := [(299, _), (298, _), (297, _), (296, _), (295, _), (294, _), (293, _), (292, _), (291, _), (290, _), (289, _), (288, _), (287, _), (286, _), (285, _), (284, _), (283, _), (282, _), (281, _), (280, _), (32, _), (30, _), (28, _), (26, _), (10, _), (11, _), (9, _), (8, _), (7, _), (5, _), (1, _)]) rfl ?_; intro a hf
                        refine rd hf rfl (yl_pickFF rfl rfl rfl) rfl rfl ?_; intro a hf
                        refine plan_nil ?_
                        replace hf := hf.sel [300, 30, 28, 26, 10, 11, 9, 8, 7, 5, 1] (l' := [(300, _), (30, _), (28, _), (26, _), (10, _), (11, _), (9, _), (8, _), (7, _), (5, _), (1, _)]) rfl
                        refine wp_ifFF hf rfl (rfl) ?_
                        refine wpIn_skip ?_
                        -- region 63 (outright.go:244)
                        refine wp_reg ([]) ([_, _, _, _, _, _, _, _, _, _, _, _, _, _, _] ++ rs) [(0, true), (1, true), (2, true)] mixed (by kernel_rfl) (hT) ?_; intro w hT
                        refine rd hf rfl (yl_move rfl) rfl rfl ?_; intro a hf
                        refine rd hf rfl (yl_add rfl rfl (by unfold inI64; omega)) rfl rfl ?_; intro a hf
                        refine rw_ hf rfl (yl_assign rfl) rfl (l' := [(30, _), (273, _), (272, _), (300, _), (28, _), (26, _), (10, _), (11, _), (9, _), (8, _), (7, _), (5, _), (1, _)]) rfl ?_; intro a hf
                        refine plan_nil ?_
                        replace hf := hf.sel [30, 28, 26, 10, 11, 9, 8, 7, 5, 1] (l' := [(30, _), (28, _), (26, _), (10, _), (11, _), (9, _), (8, _), (7, _), (5, _), (1, _)]) rfl
                        exact ⟨j + 1, _, hf.sel [30, 28, 26, 10, 11, 9, 8, 7, 5, 1] rfl, ⟨rfl, by omega⟩, (hT.brings [0]).tail, by first | omega | (dsimp only; omega)⟩
                      · skip
                        have hdq := hon2.dom _ _ hq
                        -- region 64 (outright.go:245)
                        refine wp_reg ([]) ([_, _, _, _, _, _, _, _, _, _, _, _, _, _] ++ rs) [(0, true), (1, true), (2, true), (3, true), (4, true), (5, true), (6, false), (7, false), (8, true)] mixed (by kernel_rfl) (hT) ?_; intro w hT
                        refine rd hf rfl (yl_move rfl) rfl rfl ?_; intro a hf
                        refine rd hf rfl (yl_move rfl) rfl rfl ?_; intro a hf
                        refine rd hf rfl (yl_lookupOkE kI Try.underlying29 zr_31 rfl rfl ⟨_, .tail _ (.tail _ (.tail _ (.tail _ (.tail _ (.tail _ (.tail _ (.tail _ (.tail _ (.tail _ (.tail _ (.head _))))))))))), hMA⟩ (show _ = encR y from by rw [hq]; rfl) (show _ = true from by rw [hq]; rfl)) rfl rfl ?_; intro a hf
                        refine rd hf rfl (yl_move rfl) rfl rfl ?_; intro a hf
                        refine rd hf rfl (yl_extract rfl rfl) rfl rfl ?_; intro a hf
                        refine rd hf rfl (yl_extract rfl rfl) rfl rfl ?_; intro a hf
                        refine ef hf hT rfl rfl (ef_alloc zr_31) rfl (l' := [(279, _), (278, _), (274, _), (277, _), (276, _), (275, _), (271, _), (270, _), (269, _), (30, _), (28, _), (26, _), (10, _), (11, _), (9, _), (8, _), (7, _), (5, _), (1, _)]) rfl ?_; rintro a w v L ⟨b5, rfl, rfl⟩ hf hT
                        refine efS hf hT rfl rfl (ef_storeW rfl rfl sz_31 rfl rfl rfl) ?_; rintro w L rfl hT
                        refine rd hf rfl (yl_assign rfl) rfl rfl ?_; intro a hf
                        refine plan_nil ?_
                        replace hf := hf.sel [32, 30, 28, 26, 10, 11, 9, 8, 7, 5, 1] (l' := [(32, _), (30, _), (28, _), (26, _), (10, _), (11, _), (9, _), (8, _), (7, _), (5, _), (1, _)]) rfl
                        refine wpIn_seq ?_
                        -- region 65 (outright.go:246)
                        refine wp_reg ([]) ([_, _, _, _, _, _, _, _, _, _, _, _, _, _, _] ++ rs) [(0, true), (1, true), (2, true), (3, true), (4, false), (5, true), (6, true), (7, true), (8, true), (9, true), (10, true), (11, true), (12, true), (13, true), (14, true), (15, true), (16, true), (17, true), (18, true), (19, true), (20, true)] mixed (by kernel_rfl) (hT) ?_; intro w hT
                        refine rd hf rfl (yl_move rfl) rfl rfl ?_; intro a hf
                        refine rd hf rfl (yl_move rfl) rfl rfl ?_; intro a hf
                        refine rdT hf rfl rfl rfl rfl (rfl) (yl_move rfl) rfl (l' := [(282, _), (281, _), (280, _), (32, _), (30, _), (28, _), (26, _), (10, _), (11, _), (9, _), (8, _), (7, _), (5, _), (1, _)]) rfl ?_; intro a hf
                        refine rdT hf rfl rfl rfl rfl (rfl) (yl_move rfl) rfl (l' := [(283, _), (282, _), (281, _), (280, _), (32, _), (30, _), (28, _), (26, _), (10, _), (11, _), (9, _), (8, _), (7, _), (5, _), (1, _)]) rfl ?_; intro a hf
                        refine ef_call hf rfl (by rw [wanted_some hf rfl rfl rfl rfl]; first | rfl | simp | decide) rfl rfl (by kernel_rfl) (Spec.frame (L2 := []) (find_spec s2.L (j : Int) hv (hH1.els (.tail _ (.tail _ (.tail _ (.head _))))) hT)) rfl (l' := [(283, _), (282, _), (281, _), (280, _), (32, _), (30, _), (28, _), (26, _), (10, _), (11, _), (9, _), (8, _), (7, _), (5, _), (1, _)]) rfl ?_; rintro a w v L ⟨L1, ⟨jj, rfl, hfd, rfl⟩, rfl⟩ hf hT
                        refine rdT hf rfl rfl rfl rfl (rfl) (yl_cmp rfl rfl rfl) rfl (l' := [(285, _), (284, _), (283, _), (282, _), (281, _), (280, _), (32, _), (30, _), (28, _), (26, _), (10, _), (11, _), (9, _), (8, _), (7, _), (5, _), (1, _)]) rfl ?_; intro a hf
                        refine rd hf rfl (yl_pickTT rfl rfl rfl) rfl rfl ?_; intro a hf
                        refine rd hf rfl (yl_move rfl) rfl rfl ?_; intro a hf
                        by_cases hg7 : jj < 0
                        · have hgT3 : decide (jj < 0) = true := by simpa using hg7
                          have hnh : (j : Int) ∉ ids s2.L := by rcases hfd with ⟨u, hu, h1, _⟩ | ⟨_, h1⟩; exfalso; omega; exact h1
                          refine rdT hf rfl rfl rfl rfl (by first | exact hgT3 | simp [hgT3]) (yl_move rfl) rfl (l' := [(288, _), (287, _), (286, _), (285, _), (284, _), (283, _), (282, _), (281, _), (280, _), (32, _), (30, _), (28, _), (26, _), (10, _), (11, _), (9, _), (8, _), (7, _), (5, _), (1, _)]) rfl ?_; intro a hf
                          refine rdT hf rfl rfl rfl rfl (by first | exact hgT3 | simp [hgT3]) (yl_move rfl) rfl (l' := [(289, _), (288, _), (287, _), (286, _), (285, _), (284, _), (283, _), (282, _), (281, _), (280, _), (32, _), (30, _), (28, _), (26, _), (10, _), (11, _), (9, _), (8, _), (7, _), (5, _), (1, _)]) rfl ?_; intro a hf
                          refine rdT hf rfl rfl rfl rfl (by first | exact hgT3 | simp [hgT3]) (yl_indexE rfl rfl Try.underlying98 sz_4 (hAR.els (.tail _ (.head _))) (by omega) (by omega)) rfl (l' := [(290, _), (289, _), (288, _), (287, _), (286, _), (285, _), (284, _), (283, _), (282, _), (281, _), (280, _), (32, _), (30, _), (28, _), (26, _), (10, _), (11, _), (9, _), (8, _), (7, _), (5, _), (1, _)]) rfl ?_; intro a hf
                          refine rdT hf rfl rfl rfl rfl (by first | exact hgT3 | simp [hgT3]) (yl_load Try.underlying4 rfl rfl ((hAR.els (.tail _ (.head _))).cell hja (f := 0) rfl)) rfl (l' := [(291, _), (290, _), (289, _), (288, _), (287, _), (286, _), (285, _), (284, _), (283, _), (282, _), (281, _), (280, _), (32, _), (30, _), (28, _), (26, _), (10, _), (11, _), (9, _), (8, _), (7, _), (5, _), (1, _)]) rfl ?_; intro a hf
                          refine rdT hf rfl rfl rfl rfl (by first | exact hgT3 | simp [hgT3]) (yl_not rfl) rfl (l' := [(292, _), (291, _), (290, _), (289, _), (288, _), (287, _), (286, _), (285, _), (284, _), (283, _), (282, _), (281, _), (280, _), (32, _), (30, _), (28, _), (26, _), (10, _), (11, _), (9, _), (8, _), (7, _), (5, _), (1, _)]) rfl ?_; intro a hf
                          refine rd hf rfl (yl_pickTT rfl hgT3 rfl) rfl rfl ?_; intro a hf
                          refine rd hf rfl (yl_move rfl) rfl rfl ?_; intro a hf
                          by_cases hg14 : (!ba) = true
                          · have hgT4 : (!ba) = true := by simpa using hg14
                            have hnr : (j : Int) ∉ rids xs := fun h => by have h1 := (har j).2 h; rw [Int.toNat_natCast, h1] at hja; cases hja; cases hg14
                            refine rdT hf rfl rfl rfl rfl (by first | exact hgT4 | simp [hgT4]) (yl_move rfl) rfl (l' := [(295, _), (294, _), (293, _), (292, _), (291, _), (290, _), (289, _), (288, _), (287, _), (286, _), (285, _), (284, _), (283, _), (282, _), (281, _), (280, _), (32, _), (30, _), (28, _), (26, _), (10, _), (11, _), (9, _), (8, _), (7, _), (5, _), (1, _)]) rfl ?_; intro a hf
                            refine rdT hf rfl rfl rfl rfl (by first | exact hgT4 | simp [hgT4]) (yl_move rfl) rfl (l' := [(296, _), (295, _), (294, _), (293, _), (292, _), (291, _), (290, _), (289, _), (288, _), (287, _), (286, _), (285, _), (284, _), (283, _), (282, _), (281, _), (280, _), (32, _), (30, _), (28, _), (26, _), (10, _), (11, _), (9, _), (8, _), (7, _), (5, _), (1, _)]) rfl ?_; intro a hf
                            refine rdT hf rfl rfl rfl rfl (by first | exact hgT4 | simp [hgT4]) (yl_indexE rfl rfl Try.underlying98 sz_4 (hGO.els (.tail _ (.tail _ (.tail _ (.tail _ (.tail _ (.tail _ (.tail _ (.tail _ (.tail _ (.tail _ (.tail _ (.tail _ (.tail _ (.head _))))))))))))))) (by omega) (by omega)) rfl (l' := [(297, _), (296, _), (295, _), (294, _), (293, _), (292, _), (291, _), (290, _), (289, _), (288, _), (287, _), (286, _), (285, _), (284, _), (283, _), (282, _), (281, _), (280, _), (32, _), (30, _), (28, _), (26, _), (10, _), (11, _), (9, _), (8, _), (7, _), (5, _), (1, _)]) rfl ?_; intro a hf
                            refine rdT hf rfl rfl rfl rfl (by first | exact hgT4 | simp [hgT4]) (yl_load Try.underlying4 rfl rfl ((hGO.els (.tail _ (.tail _ (.tail _ (.tail _ (.tail _ (.tail _ (.tail _ (.tail _ (.tail _ (.tail _ (.tail _ (.tail _ (.tail _ (.head _))))))))))))))).cell hjg (f := 0) rfl)) rfl (l' := [(298, _), (297, _), (296, _), (295, _), (294, _), (293, _), (292, _), (291, _), (290, _), (289, _), (288, _), (287, _), (286, _), (285, _), (284, _), (283, _), (282, _), (281, _), (280, _), (32, _), (30, _), (28, _), (26, _), (10, _), (11, _), (9, _), (8, _), (7, _), (5, _), (1, _)]) rfl ?_; intro a hf
                            refine rdT hf rfl rfl rfl rfl (by first | exact hgT4 | simp [hgT4]) (yl_not rfl) rfl (l' := [(299, _), (298, _), (297, _), (296, _), (295, _), (294, _), (293, _), (292, _), (291, _), (290, _), (289, _), (288, _), (287, _), (286, _), (285, _), (284, _), (283, _), (282, _), (281, _), (280, _), (32, _), (30, _), (28, _), (26, _), (10, _), (11, _), (9, _), (8, _), (7, _), (5, _), (1, _)]) rfl ?_; intro a hf
                            refine rd hf rfl (yl_pickTT rfl hgT4 rfl) rfl rfl ?_; intro a hf
                            refine plan_nil ?_
                            replace hf := hf.sel [300, 30, 28, 26, 10, 11, 9, 8, 7, 5, 1] (l' := [(300, _), (30, _), (28, _), (26, _), (10, _), (11, _), (9, _), (8, _), (7, _), (5, _), (1, _)]) rfl
                            refine wp_if hf rfl (fun hlo => ?_) (fun hlo => ?_)
                            · -- then
                              rcases hdq.2 with h | h | h; exact absurd h hnh; exact absurd h hnr; rw [h] at hjg; cases hjg; cases hlo
                            · -- else
                              refine wpIn_skip ?_
                              -- region 63 (outright.go:244)
                              refine wp_reg ([]) ([_, _, _, _, _, _, _, _, _, _, _, _, _, _, _] ++ rs) [(0, true), (1, true), (2, true)] mixed (by kernel_rfl) (hT) ?_; intro w hT
                              refine rd hf rfl (yl_move rfl) rfl rfl ?_; intro a hf
                              refine rd hf rfl (yl_add rfl rfl (by unfold inI64; omega)) rfl rfl ?_; intro a hf
                              refine rw_ hf rfl (yl_assign rfl) rfl (l' := [(30, _), (273, _), (272, _), (300, _), (28, _), (26, _), (10, _), (11, _), (9, _), (8, _), (7, _), (5, _), (1, _)]) rfl ?_; intro a hf
                              refine plan_nil ?_
                              replace hf := hf.sel [30, 28, 26, 10, 11, 9, 8, 7, 5, 1] (l' := [(30, _), (28, _), (26, _), (10, _), (11, _), (9, _), (8, _), (7, _), (5, _), (1, _)]) rfl
                              exact ⟨j + 1, _, hf.sel [30, 28, 26, 10, 11, 9, 8, 7, 5, 1] rfl, ⟨rfl, by omega⟩, (hT.brings [0]).tail, by first | omega | (dsimp only; omega)⟩
                          · have hgT4 : (!ba) = false := by simpa using hg14
                            refine rdF hf rfl rfl rfl rfl (by first | exact hgT4 | simp [hgT4]) rfl (l' := [(295, _), (294, _), (293, _), (292, _), (291, _), (290, _), (289, _), (288, _), (287, _), (286, _), (285, _), (284, _), (283, _), (282, _), (281, _), (280, _), (32, _), (30, _), (28, _), (26, _), (10, _), (11, _), (9, _), (8, _), (7, _), (5, _), (1, _)]) rfl ?_; intro a hf
                            refine rdF hf rfl rfl rfl rfl (by first | exact hgT4 | simp [hgT4]) rfl (l' := [(296, _), (295, _), (294, _), (293, _), (292, _), (291, _), (290, _), (289, _), (288, _), (287, _), (286, _), (285, _), (284, _), (283, _), (282, _), (281, _), (280, _), (32, _), (30, _), (28, _), (26, _), (10, _), (11, _), (9, _), (8, _), (7, _), (5, _), (1, _)]) rfl ?_; intro a hf
                            refine rdF hf rfl rfl rfl rfl (by first | exact hgT4 | simp [hgT4]) rfl (l' := [(297, _), (296, _), (295, _), (294, _), (293, _), (292, _), (291, _), (290, _), (289, _), (288, _), (287, _), (286, _), (285, _), (284, _), (283, _), (282, _), (281, _), (280, _), (32, _), (30, _), (28, _), (26, _), (10, _), (11, _), (9, _), (8, _), (7, _), (5, _), (1, _)]) rfl ?_; intro a hf
                            refine rdF hf rfl rfl rfl rfl (by first | exact hgT4 | simp [hgT4]) rfl (l' := [(298, _), (297, _), (296, _), (295, _), (294, _), (293, _), (292, _), (291, _), (290, _), (289, _), (288, _), (287, _), (286, _), (285, _), (284, _), (283, _), (282, _), (281, _), (280, _), (32, _), (30, _), (28, _), (26, _), (10, _), (11, _), (9, _), (8, _), (7, _), (5, _), (1, _)]) rfl ?_; intro a hf
                            refine rdF hf rfl rfl rfl rfl (by first | exact hgT4 | simp [hgT4]) rfl (l' := [(299, _), (298, _), (297, _), (296, _), (295, _), (294, _), (293, _), (292, _), (291, _), (290, _), (289, _), (288, _), (287, _), (286, _), (285, _), (284, _), (283, _), (282, _), (281, _), (280, _), (32, _), (30, _), (28, _), (26, _), (10, _), (11, _), (9, _), (8, _), (7, _), (5, _), (1, _)]) rfl ?_; intro a hf
                            refine rd hf rfl (yl_pickFF rfl hgT4 rfl) rfl rfl ?_; intro a hf
                            refine plan_nil ?_
                            replace hf := hf.sel [300, 30, 28, 26, 10, 11, 9, 8, 7, 5, 1] (l' := [(300, _), (30, _), (28, _), (26, _), (10, _), (11, _), (9, _), (8, _), (7, _), (5, _), (1, _)]) rfl
                            refine wp_ifFF hf rfl (rfl) ?_
                            refine wpIn_skip ?_
                            -- region 63 (outright.go:244)
                            refine wp_reg ([]) ([_, _, _, _, _, _, _, _, _, _, _, _, _, _, _] ++ rs) [(0, true), (1, true), (2, true)] mixed (by kernel_rfl) (hT) ?_; intro w hT
                            refine rd hf rfl (yl_move rfl) rfl rfl ?_; intro a hf
                            refine rd hf rfl (yl_add rfl rfl (by unfold inI64; omega)) rfl rfl ?_; intro a hf
                            refine rw_ hf rfl (yl_assign rfl) rfl (l' := [(30, _), (273, _), (272, _), (300, _), (28, _), (26, _), (10, _), (11, _), (9, _), (8, _), (7, _), (5, _), (1, _)]) rfl ?_; intro a hf
                            refine plan_nil ?_
                            replace hf := hf.sel [30, 28, 26, 10, 11, 9, 8, 7, 5, 1] (l' := [(30, _), (28, _), (26, _), (10, _), (11, _), (9, _), (8, _), (7, _), (5, _), (1, _)]) rfl
                            exact ⟨j + 1, _, hf.sel [30, 28, 26, 10, 11, 9, 8, 7, 5, 1] rfl, ⟨rfl, by omega⟩, (hT.brings [0]).tail, by first | omega | (dsimp only; omega)⟩
                        · have hgT3 : decide (jj < 0) = false := by simpa using hg7
                          refine rdF hf rfl rfl rfl rfl (by first | exact hgT3 | simp [hgT3]) rfl (l' := [(288, _), (287, _), (286, _), (285, _), (284, _), (283, _), (282, _), (281, _), (280, _), (32, _), (30, _), (28, _), (26, _), (10, _), (11, _), (9, _), (8, _), (7, _), (5, _), (1, _)]) rfl ?_; intro a hf
                          refine rdF hf rfl rfl rfl rfl (by first | exact hgT3 | simp [hgT3]) rfl (l' := [(289, _), (288, _), (287, _), (286, _), (285, _), (284, _), (283, _), (282, _), (281, _), (280, _), (32, _), (30, _), (28, _), (26, _), (10, _), (11, _), (9, _), (8, _), (7, _), (5, _), (1, _)]) rfl ?_; intro a hf
                          refine rdF hf rfl rfl rfl rfl (by first | exact hgT3 | simp [hgT3]) rfl (l' := [(290, _), (289, _), (288, _), (287, _), (286, _), (285, _), (284, _), (283, _), (282, _), (281, _), (280, _), (32, _), (30, _), (28, _), (26, _), (10, _), (11, _), (9, _), (8, _), (7, _), (5, _), (1, _)]) rfl ?_; intro a hf
                          refine rdF hf rfl rfl rfl rfl (by first | exact hgT3 | simp [hgT3]) rfl (l' := [(291, _), (290, _), (289, _), (288, _), (287, _), (286, _), (285, _), (284, _), (283, _), (282, _), (281, _), (280, _), (32, _), (30, _), (28, _), (26, _), (10, _), (11, _), (9, _), (8, _), (7, _), (5, _), (1, _)]) rfl ?_; intro a hf
                          refine rdF hf rfl rfl rfl rfl (by first | exact hgT3 | simp [hgT3]) rfl (l' := [(292, _), (291, _), (290, _), (289, _), (288, _), (287, _), (286, _), (285, _), (284, _), (283, _), (282, _), (281, _), (280, _), (32, _), (30, _), (28, _), (26, _), (10, _), (11, _), (9, _), (8, _), (7, _), (5, _), (1, _)]) rfl ?_; intro a hf
                          refine rd hf rfl (yl_pickFF rfl hgT3 rfl) rfl rfl ?_; intro a hf
                          refine rd hf rfl (yl_move rfl) rfl rfl ?_; intro a hf
                          refine rdF hf rfl rfl rfl rfl (rfl) rfl (l' := [(295, _), (294, _), (293, _), (292, _), (291, _), (290, _), (289, _), (288, _), (287, _), (286, _), (285, _), (284, _), (283, _), (282, _), (281, _), (280, _), (32, _), (30, _), (28, _), (26, _), (10, _), (11, _), (9, _), (8, _), (7, _), (5, _), (1, _)]) rfl ?_; intro a hf
                          refine rdF hf rfl rfl rfl rfl (rfl) rfl (l' := [(296, _), (295, _), (294, _), (293, _), (292, _), (291, _), (290, _), (289, _), (288, _), (287, _), (286, _), (285, _), (284, _), (283, _), (282, _), (281, _), (280, _), (32, _), (30, _), (28, _), (26, _), (10, _), (11, _), (9, _), (8, _), (7, _), (5, _), (1, _)]) rfl ?_; intro a hf
                          refine rdF hf rfl rfl rfl rfl (rfl) rfl (l' := [(297, _), (296, _), (295, _), (294, _), (293, _), (292, _), (291, _), (290, _), (289, _), (288, _), (287, _), (286, _), (285, _), (284, _), (283, _), (282, _), (281, _), (280, _), (32, _), (30, _), (28, _), (26, _), (10, _), (11, _), (9, _), (8, _), (7, _), (5, _), (1, _)]) rfl ?_; intro a hf
                          refine rdF hf rfl rfl rfl rfl (rfl) rfl (l' := [(298, _), (297, _), (296, _), (295, _), (294, _), (293, _), (292, _), (291, _), (290, _), (289, _), (288, _), (287, _), (286, _), (285, _), (284, _), (283, _), (282, _), (281, _), (280, _), (32, _), (30, _), (28, _), (26, _), (10, _), (11, _), (9, _), (8, _), (7, _), (5, _), (1, _)]) rfl ?_; intro a hf
                          refine rdF hf rfl rfl rfl rfl (rfl) rfl (l' := [(299, _), (298, _), (297, _), (296, _), (295, _), (294, _), (293, _), (292, _), (291, _), (290, _), (289, _), (288, _), (287, _), (286, _), (285, _), (284, _), (283, _), (282, _), (281, _), (280, _), (32, _), (30, _), (28, _), (26, _), (10, _), (11, _), (9, _), (8, _), (7, _), (5, _), (1, _)]) rfl ?_; intro a hf
                          refine rd hf rfl (yl_pickFF rfl rfl rfl) rfl rfl ?_; intro a hf
                          refine plan_nil ?_
                          replace hf := hf.sel [300, 30, 28, 26, 10, 11, 9, 8, 7, 5, 1] (l' := [(300, _), (30, _), (28, _), (26, _), (10, _), (11, _), (9, _), (8, _), (7, _), (5, _), (1, _)]) rfl
                          refine wp_ifFF hf rfl (rfl) ?_
                          refine wpIn_skip ?_
                          -- region 63 (outright.go:244)
                          refine wp_reg ([]) ([_, _, _, _, _, _, _, _, _, _, _, _, _, _, _] ++ rs) [(0, true), (1, true), (2, true)] mixed (by kernel_rfl) (hT) ?_; intro w hT
                          refine rd hf rfl (yl_move rfl) rfl rfl ?_; intro a hf
                          refine rd hf rfl (yl_add rfl rfl (by unfold inI64; omega)) rfl rfl ?_; intro a hf
                          refine rw_ hf rfl (yl_assign rfl) rfl (l' := [(30, _), (273, _), (272, _), (300, _), (28, _), (26, _), (10, _), (11, _), (9, _), (8, _), (7, _), (5, _), (1, _)]) rfl ?_; intro a hf
                          refine plan_nil ?_
                          replace hf := hf.sel [30, 28, 26, 10, 11, 9, 8, 7, 5, 1] (l' := [(30, _), (28, _), (26, _), (10, _), (11, _), (9, _), (8, _), (7, _), (5, _), (1, _)]) rfl
                          exact ⟨j + 1, _, hf.sel [30, 28, 26, 10, 11, 9, 8, 7, 5, 1] rfl, ⟨rfl, by omega⟩, (hT.brings [0]).tail, by first | omega | (dsimp only; omega)⟩
                    · -- else
                      skip
                      refine wpIn_exit ?_
                      refine then_exit ?_
                      refine then_exit ?_
                      refine inBlock_hit ?_
                      -- region 12 (outright.go:184)
                      refine wp_reg ([]) ([_, _, _, _, _, _, _, _, _, _, _, _, _, _] ++ rs) [(0, true), (1, true), (2, true)] mixed (by kernel_rfl) (hT) ?_; intro w hT
                      refine rd hf rfl (yl_move rfl) rfl rfl ?_; intro a hf
                      refine rd hf rfl (yl_add rfl rfl (by unfold inI64; omega)) rfl rfl ?_; intro a hf
                      refine rw_ hf rfl (yl_assign rfl) rfl (l' := [(11, _), (64, _), (63, _), (271, _), (270, _), (269, _), (30, _), (28, _), (26, _), (10, _), (9, _), (8, _), (7, _), (5, _), (1, _)]) rfl ?_; intro a hf
                      refine plan_nil ?_
                      replace hf := hf.sel [11, 10, 9, 8, 7, 5, 1] (l' := [(11, _), (10, _), (9, _), (8, _), (7, _), (5, _), (1, _)]) rfl
                      exact ⟨(i + 1, N, s2, xs, m, g), _, hf.sel [11, 10, 9, 8, 7, 5, 1] rfl, ⟨hon2.up (by omega), hNb, (fun h => hnil2 (by omega)), by omega, _, _, _, _, _, _, _, _, _, hB2, hIx, hMA, hGO, rfl⟩, (hT.brings [13, 11, 4, 4, 4]).tail.tail.tail.tail.tail, by first | omega | (dsimp only; omega)⟩
    · -- else
      obtain rfl : i = rl.length + 2 := by omega
      have hsnil := hnil (by omega)
      refine wpIn_exit ?_
      refine then_exit ?_
      refine then_exit ?_
      refine inBlock_hit ?_
      refine wpIn_seq ?_
      -- region 67 (outright.go:251)
      refine wp_reg ([]) ([_, _, _, _, _, _, _, _, _] ++ rs) [(0, true), (1, false), (2, false), (3, true), (4, true), (5, true), (6, false), (7, true), (8, true), (9, true), (10, false), (11, true), (12, true)] mixed (by kernel_rfl) (hT) ?_; intro w hT
      refine rd hf rfl (yl_move rfl) rfl rfl ?_; intro a hf
      refine ef_call hf rfl (wanted_none _ _ rfl) rfl rfl (by kernel_rfl) (Spec.frame (L2 := []) (Held_spec b s (hB.inn (fun x hx => by rcases mem5 hx with rfl | rfl | rfl | rfl | rfl; exact .head _; exact .tail _ (.head _); exact .tail _ (.tail _ (.head _)); exact .tail _ (.tail _ (.tail _ (.head _))); exact .tail _ (.tail _ (.tail _ (.tail _ (.head _)))))) hon.inv.nd (by have := hon.len; omega) hT)) rfl (l' := [(301, _), (62, _), (11, _), (10, _), (9, _), (8, _), (7, _), (5, _), (1, _)]) rfl ?_; rintro a w h2v L ⟨L1, ⟨XH2, hH2, rfl⟩, rfl⟩ hf hT
      refine ef hf hT rfl rfl (ef_read (yl_lenE rfl Try.underlying35 (hH2.els (.head _)))) rfl (l' := [(302, _), (301, _), (62, _), (11, _), (10, _), (9, _), (8, _), (7, _), (5, _), (1, _)]) rfl ?_; rintro a w v L ⟨rfl, rfl⟩ hf hT
      refine rd hf rfl (yl_cmp rfl rfl rfl) rfl rfl ?_; intro a hf
      refine rd hf rfl (yl_move rfl) rfl rfl ?_; intro a hf
      refine rdT hf rfl rfl rfl rfl (by first | exact (decide_eq_true (by rw [hsnil]; rfl)) | simp [(decide_eq_true (by rw [hsnil]; rfl))]) (yl_move rfl) rfl (l' := [(306, _), (305, _), (304, _), (303, _), (302, _), (301, _), (62, _), (11, _), (10, _), (9, _), (8, _), (7, _), (5, _), (1, _)]) rfl ?_; intro a hf
      refine ef_call hf rfl (by rw [wanted_some hf rfl rfl rfl rfl]; first | exact beqT (decide_eq_true (by rw [hsnil]; rfl)) | simp [(decide_eq_true (by rw [hsnil]; rfl))]) rfl rfl (by kernel_rfl) (Spec.frame (L2 := [_]) (Used_spec b s (hB.inn (fun x hx => by rcases mem5 hx with rfl | rfl | rfl | rfl | rfl; exact .tail _ (.head _); exact .tail _ (.tail _ (.head _)); exact .tail _ (.tail _ (.tail _ (.head _))); exact .tail _ (.tail _ (.tail _ (.tail _ (.head _)))); exact .tail _ (.tail _ (.tail _ (.tail _ (.tail _ (.head _))))))) hT)) rfl (l' := [(306, _), (305, _), (304, _), (303, _), (302, _), (301, _), (62, _), (11, _), (10, _), (9, _), (8, _), (7, _), (5, _), (1, _)]) rfl ?_; rintro a w v L ⟨L1, ⟨rfl, rfl⟩, rfl⟩ hf hT
      refine rdT hf rfl rfl rfl rfl (by first | exact (decide_eq_true (by rw [hsnil]; rfl)) | simp [(decide_eq_true (by rw [hsnil]; rfl))]) (yl_cmp rfl rfl rfl) rfl (l' := [(308, _), (307, _), (306, _), (305, _), (304, _), (303, _), (302, _), (301, _), (62, _), (11, _), (10, _), (9, _), (8, _), (7, _), (5, _), (1, _)]) rfl ?_; intro a hf
      refine rd hf rfl (yl_pickTT rfl (decide_eq_true (by rw [hsnil]; rfl)) rfl) rfl rfl ?_; intro a hf
      refine rd hf rfl (yl_move rfl) rfl rfl ?_; intro a hf
      refine ef_call hf rfl (by rw [wanted_some hf rfl rfl rfl rfl]; first | exact beqT (decide_eq_true (by rw [hon.inv.us, hsnil]; rfl)) | simp [(decide_eq_true (by rw [hon.inv.us, hsnil]; rfl))]) rfl rfl (by kernel_rfl) (Spec.frame (L2 := [_]) (fine_spec hT)) rfl (l' := [(310, _), (309, _), (308, _), (307, _), (306, _), (305, _), (304, _), (303, _), (302, _), (301, _), (62, _), (11, _), (10, _), (9, _), (8, _), (7, _), (5, _), (1, _)]) rfl ?_; rintro a w v L ⟨L1, ⟨rfl, rfl⟩, rfl⟩ hf hT
      refine rd hf rfl (yl_pickTT rfl (decide_eq_true (by rw [hon.inv.us, hsnil]; rfl)) rfl) rfl rfl ?_; intro a hf
      refine rd hf rfl (yl_assign rfl) rfl rfl ?_; intro a hf
      refine plan_nil ?_
      replace hf := hf.sel [4] (l' := [(4, _)]) rfl
      refine wpIn_ret ?_
      exact body_ret hf (L := []) hT.tail.tail.tail.tail.tail.tail.tail.tail.tail.tail rfl rfl ⟨rfl, rfl⟩
end Go.Proofs.Ytjhbgciocffihaa
