-- written by gen.py out of walks texts of my own
import Derived.Test.YtjhbgciocffihaaB36
import Derived.Test.YtjhbgciocffihaaB11
set_option linter.unusedVariables false
set_option linter.unusedSimpArgs false
set_option maxHeartbeats 4000000
namespace Go.Proofs.Ytjhbgciocffihaa
private theorem yl_indexArr {P : Program} {R : List Part} {l : List (Nat × Value)} {ty : TypeId} {t : TypeId} {x y : Operand} {b off n : Nat} {j : Int} {e : TypeId} {k sz : Nat} (hx : ev l x = some (.pointer (some ⟨b, off, none⟩))) (hy : ev l y = some (.int .i64 j)) (hu : P.underlying t = some (.array n e)) (hs : (P.info? e).map (·.size) = some sz)
    (h0 : 0 ≤ j) (h1 : j < n) (hk : off + j.toNat * sz = k) : Yl P R l (.indexAddr t x y) ty (.pointer (some ⟨b, k, none⟩)) := by
  intro a w ha hw dst pos after guard
  obtain ⟨i, hi, hn⟩ := Option.map_eq_some_iff.1 hs
  have hz : (sizeOf e).run P w = .ok sz w := by simp [sizeOf, typeInfo, program, Sem.run_bind, Sem.run, Result.andThen, hi, hn, pure, Sem.pure]
  simp only [execOp, ha.ev hx, ha.ev hy, Instr.indexAt]
  simp [Sem.run_bind, Sem.run_pure, Result.andThen, run_underlying' hu, asIntOf, Instr.sureAddr, h0, h1, hz, add_at, hk]
theorem idx_len : ∀ n o k b, (cidx n o k b).length ≤ n
  | 0, _, _, _ => Nat.le_refl _
  | n + 1, o, k, b => by
    have ih := idx_len n (o - 1) (k + 1) b
    unfold cidx
    split
    · simp; omega
    · omega
structure Pr where
  a : Int
  b : Int
def Pr.cells (p : Pr) : List Value := [.int .u8 p.a, .int .u8 p.b]
def encPr : Enc Pr := ⟨Pr.cells, 2, fun _ => rfl, fun a u h => by simp [Pr.cells] at h; rcases h with rfl | rfl <;> rfl, by decide⟩
def Pr.Ok (p : Pr) : Prop := (0 ≤ p.a ∧ p.a ≤ 255) ∧ (0 ≤ p.b ∧ p.b ≤ 255)
def Pr.toP (p : Pr) : Pcl := ⟨1 + p.a, p.b⟩
theorem Pr.pok {p : Pr} (h : p.Ok) : Pok p.toP := by
  obtain ⟨h1, h2⟩ := h
  exact ⟨by show 1 ≤ 1 + p.a; omega, by show 1 + p.a ≤ _; omega, by show 0 ≤ p.b; omega, by show p.b ≤ _; omega⟩
def fw (xs : List Pcl) (i : Nat) : Int := ((xs[i]?).map (·.wo)).getD 0
def fs (xs : List Pcl) (i : Nat) : Int := ((xs[i]?).map (·.sz)).getD 0
theorem isum_snoc (f : Nat → Int) (i : Nat) : ∀ l, isum f (l ++ [i]) = isum f l + f i
  | [] => by show f i + 0 = 0 + f i; omega
  | a :: l => by show f a + isum f (l ++ [i]) = f a + isum f l + f i; rw [isum_snoc f i l]; omega
theorem isum_rng {f : Nat → Int} {M : Int} (h : ∀ i, 0 ≤ f i ∧ f i ≤ M) : ∀ l : List Nat, 0 ≤ isum f l ∧ isum f l ≤ M * (l.length : Int)
  | [] => by show (0 : Int) ≤ 0 ∧ (0 : Int) ≤ M * 0; omega
  | a :: l => by
    have h1 := h a; have h2 := isum_rng h l
    show 0 ≤ f a + isum f l ∧ f a + isum f l ≤ M * ((l.length + 1 : Nat) : Int)
    rw [Int.natCast_add, Int.mul_add]
    omega
theorem fw_rng {xs : List Pcl} (h : ∀ x ∈ xs, Pok x) (i : Nat) : 0 ≤ fw xs i ∧ fw xs i ≤ 1048576 := by
  unfold fw
  cases hi : xs[i]? with
  | none => simp
  | some x => have := h x (List.mem_of_getElem? hi); exact ⟨this.w1, this.w2⟩
theorem fs_rng {xs : List Pcl} (h : ∀ x ∈ xs, Pok x) (i : Nat) : 0 ≤ fs xs i ∧ fs xs i ≤ 16777216 := by
  unfold fs
  cases hi : xs[i]? with
  | none => simp
  | some x => have := h x (List.mem_of_getElem? hi); exact ⟨by have := this.s1; show 0 ≤ x.sz; omega, this.s2⟩
theorem fw_at {xs : List Pcl} {i : Nat} {x : Pcl} (h : xs[i]? = some x) : fw xs i = x.wo := by unfold fw; rw [h]; rfl
theorem fs_at {xs : List Pcl} {i : Nat} {x : Pcl} (h : xs[i]? = some x) : fs xs i = x.sz := by unfold fs; rw [h]; rfl
theorem csel_sum (g : Pcl → Int) (v : Ch → Int) (hz : v Ch.zero = 0) (ha : ∀ x k d, v ((unit x k).add d) = g x + v d) (F : Nat → Int) (f : Nat → Bool) : ∀ (xs : List Pcl) (o k : Nat), (∀ j x, xs[j]? = some x → F (k + j) = g x) → v (csel f xs o k) = isum F ((List.range' k xs.length).filter f)
  | [], o, k, _ => hz
  | x :: xs, o, k, hf => by
    have ih := csel_sum g v hz ha F f xs (o - 1) (k + 1) (fun j z hj => by rw [show k + 1 + j = k + (j + 1) by omega]; exact hf (j + 1) z hj)
    show v (csel f (x :: xs) o k) = isum F ((List.range' k (xs.length + 1)).filter f)
    rw [List.range'_succ]
    unfold csel
    by_cases h : f k = true
    · rw [if_pos h, List.filter_cons_of_pos h, ha, ih, ← show F k = g x from hf 0 x rfl]; rfl
    · rw [if_neg h, List.filter_cons_of_neg h, ih]
theorem idx_w {xs : List Pcl} (hn : xs.length ≤ 24) (hx : ∀ x ∈ xs, Pok x) {y : Ch} (hy : y ∈ all xs 24) : isum (fw xs) (cidx xs.length 24 0 y.b) = y.w :=
  idx_sum (·.wo) (·.w) rfl (fun _ _ _ => rfl) (fw xs) xs 24 0 hn hx (fun j x hj => by rw [Nat.zero_add]; exact fw_at hj) y hy
theorem idx_s {xs : List Pcl} (hn : xs.length ≤ 24) (hx : ∀ x ∈ xs, Pok x) {y : Ch} (hy : y ∈ all xs 24) : isum (fs xs) (cidx xs.length 24 0 y.b) = y.s :=
  idx_sum (·.sz) (·.s) rfl (fun _ _ _ => rfl) (fs xs) xs 24 0 hn hx (fun j x hj => by rw [Nat.zero_add]; exact fs_at hj) y hy
/-- Any choice, by its bits: it is among all. -/
theorem sel_all (xs : List Pcl) (f : Nat → Bool) : ∃ y, y ∈ all xs 24 ∧ y.w = isum (fw xs) ((List.range xs.length).filter f) ∧ y.s = isum (fs xs) ((List.range xs.length).filter f) := by
  refine ⟨csel f xs 24 0, csel_mem f xs 24 0, ?_, ?_⟩
  · rw [List.range_eq_range']
    exact csel_sum (·.wo) (·.w) rfl (fun _ _ _ => rfl) (fw xs) f xs 24 0 (fun j x hj => by rw [Nat.zero_add]; exact fw_at hj)
  · rw [List.range_eq_range']
    exact csel_sum (·.sz) (·.s) rfl (fun _ _ _ => rfl) (fs xs) f xs 24 0 (fun j x hj => by rw [Nat.zero_add]; exact fs_at hj)
theorem BestIs.ok {xs : List Pcl} {m : Int} {out : List Int} {wo er : Int} (h : BestIs xs m out wo er) (hn : xs.length ≤ 24) (hx : ∀ x ∈ xs, Pok x) (hm : ¬ (m < 0 ∨ 16777216 < m)) : ∃ t, out = cidxI xs.length 24 0 t.b ∧ wo = t.w ∧ er = 0 ∧ Top (Fe xs m) t := by
  rcases h with ⟨a, _⟩ | ⟨_, a, _⟩ | ⟨_, _, a, _⟩ | ⟨_, _, _, h1, t, ht, h2, h3⟩
  · omega
  · exact absurd hx a
  · exact absurd a hm
  · exact ⟨t, h2, h3, h1, ht⟩
theorem top_drop {xs : List Pcl} {m : Int} {t t' : Ch} (h : Top (Fe xs m) t) (h' : Top (Fe (xs.drop 1) m) t') (hn : 0 < xs.length) : t'.w ≤ t.w := by
  obtain ⟨x, l, rfl⟩ : ∃ x l, xs = x :: l := by cases xs with | nil => simp at hn | cons x l => exact ⟨x, l, rfl⟩
  obtain ⟨z, hz, h1, h2⟩ := all_move l 24 23 t' h'.mem.1
  have := h.max z ⟨mem_cons_all.2 (.inl hz), by rw [h2]; exact h'.mem.2⟩
  unfold gt at this
  omega
theorem Best_specN {e : Env} {w : World} {rs : List Part} (xs : List Pcl) (A0 : Option Addr) (n cp : Nat) (hE : Els encPl rs (.slice A0 n cp) xs) (hcap : n ≤ cp) (m : Int) (hT : Tot e w rs) : Spec Try.prog 38 #[.slice A0 n cp, .int .i64 m] e w rs (fun v L => ∃ q out wo er X, v = .tuple #[q, .int .i64 wo, .int .i64 er] ∧ Sl encI 3 q out X ∧ L = [X] ∧ BestIs xs m out wo er) := by
  obtain ⟨A', c', he, _⟩ := hE.shape
  simp only [Value.slice.injEq] at he
  obtain ⟨_, hl, _⟩ := he
  subst hl
  exact Best_spec xs A0 cp hE hcap m hT
theorem Sl.dropE {α : Type} {E : Enc α} {T : TypeId} {A : Option Addr} {c : Nat} {xs : List α} {X : Part} {R : List Part} (h : Sl E T (.slice A xs.length c) xs X) (hX : X ∈ R) {lo : Nat} (hl : lo ≤ xs.length) : Els E R (.slice (if c = lo then A else A.map (·.add (lo * E.sz))) (xs.length - lo) (c - lo)) (xs.drop lo) := by
  have h1 := h.sub hX hl (Nat.le_refl _)
  rwa [List.take_of_length_le (by rw [List.length_drop]; omega)] at h1
theorem parcels_spec {e : Env} {w : World} {rs : List Part} (ps : List Pr) (hps : ∀ p ∈ ps, p.Ok) (hlen : ps.length ≤ 20) (v0 : Value) (hE : Els encPr rs v0 ps) (hT : Tot e w rs) : Spec Try.prog 40 #[v0] e w rs (fun v L => ∃ X, Sl encPl 90 v (ps.map Pr.toP) X ∧ L = [X]) := by
  refine spec_body Try.func40 rfl Try.ntmps40 rfl rfl ?_
  intro a hf
  refine wpIn_seq ?_
  -- region 0 (outright.go:304)
  refine wp_reg ([]) ([] ++ rs) [(0, true)] mixed (by kernel_rfl) (hT) ?_; intro w hT
  refine rd hf rfl (yl_assign rfl) rfl rfl ?_; intro a hf
  refine plan_nil ?_
  refine wpIn_seq ?_
  -- region 1 (outright.go:305)
  refine wp_reg ([]) ([] ++ rs) [(0, true)] mixed (by kernel_rfl) (hT) ?_; intro w hT
  refine rd hf rfl (yl_assign rfl) rfl rfl ?_; intro a hf
  refine plan_nil ?_
  refine wpIn_seq ?_
  refine wpIn_seq ?_
  -- region 2 (outright.go:306)
  refine wp_reg ([]) ([] ++ rs) [(0, true)] mixed (by kernel_rfl) (hT) ?_; intro w hT
  refine rd hf rfl (yl_assign rfl) rfl rfl ?_; intro a hf
  refine plan_nil ?_
  refine wpIn_block ?_
  replace hT := hT.emp
  refine wp_loopS (σ := Nat × Value) (fun (k, q) => [(4, .int .i64 (k : Nat)), (3, q)]) [(0, _)] (fun (k, q) L => k ≤ ps.length ∧ ∃ X, Sl encPl 90 q ((ps.take k).map Pr.toP) X ∧ L = [X]) (fun (k, q) => ps.length - k) (0, .slice none 0 0) (L := [_]) (R := [] ++ rs) (hf.sel [4, 3, 0] rfl) (⟨Nat.zero_le _, _, sl_nil, rfl⟩) hT ?_
  clear hf hT; rintro ⟨k, q⟩ a w L hf ⟨hk, XD, hD, rfl⟩ hT
  replace hf : Fr _ [(4, .int .i64 (k : Nat)), (3, q), (0, _)] _ _ := hf
  refine wpIn_seq ?_
  refine wpIn_seq ?_
  -- region 3 (outright.go:306)
  refine wp_reg ([]) ([_] ++ rs) [(0, true), (1, true), (2, true), (3, true)] mixed (by kernel_rfl) (hT) ?_; intro w hT
  refine rd hf rfl (yl_move rfl) rfl rfl ?_; intro a hf
  refine rd hf rfl (yl_move rfl) rfl rfl ?_; intro a hf
  refine rd hf rfl (yl_lenE rfl Try.underlying86 hE.app) rfl rfl ?_; intro a hf
  refine rd hf rfl (yl_cmp rfl rfl rfl) rfl rfl ?_; intro a hf
  refine plan_nil ?_
  replace hf := hf.sel [8, 4, 3, 0] (l' := [(8, _), (4, _), (3, _), (0, _)]) rfl
  refine wp_ifd hf rfl (fun hlt => ?_) (fun hlt => ?_)
  · -- then
    have hltk : k < ps.length := by omega
    obtain ⟨p, hpk⟩ : ∃ p, ps[k] = p := ⟨_, rfl⟩
    have hj : ps[k]? = some p := hpk ▸ List.getElem?_eq_getElem hltk
    obtain ⟨hpa, hpb⟩ := hps p (List.mem_of_getElem? hj)
    refine wpIn_skip ?_
    refine wpIn_seq ?_
    refine wpIn_block ?_
    -- region 5 (outright.go:307)
    refine wp_reg ([_]) ([] ++ rs) [(0, true), (1, true), (2, true), (3, true), (4, true), (5, true), (6, true), (7, true), (8, true), (9, true), (10, true), (11, true), (12, true), (13, true), (14, true), (15, false), (16, false), (17, true)] mixed (by kernel_rfl) (hT.brings [0]) ?_; intro w hT
    refine rd hf rfl (yl_move rfl) rfl rfl ?_; intro a hf
    refine rd hf rfl (yl_move rfl) rfl rfl ?_; intro a hf
    refine rd hf rfl (yl_move rfl) rfl rfl ?_; intro a hf
    refine rd hf rfl (yl_indexE rfl rfl Try.underlying86 sz_149 hE.app (by omega) (by omega)) rfl rfl ?_; intro a hf
    refine rd hf rfl (yl_indexArr (k := offs v0 + ((k : Nat) : Int).toNat * encPr.sz + 0) rfl rfl Try.underlying149 sz_5 (by decide) (by decide) (by rfl)) rfl rfl ?_; intro a hf
    refine rd hf rfl (yl_load Try.underlying5 rfl rfl (hE.app.cell hj (f := 0) rfl)) rfl rfl ?_; intro a hf
    refine rd hf rfl (yl_conv64 rfl Try.underlying5 Try.underlying2 (by unfold inI64; omega)) rfl rfl ?_; intro a hf
    refine rd hf rfl (yl_add rfl rfl (by unfold inI64; omega)) rfl rfl ?_; intro a hf
    refine rd hf rfl (yl_move rfl) rfl rfl ?_; intro a hf
    refine rd hf rfl (yl_move rfl) rfl rfl ?_; intro a hf
    refine rd hf rfl (yl_indexE rfl rfl Try.underlying86 sz_149 hE.app (by omega) (by omega)) rfl rfl ?_; intro a hf
    refine rd hf rfl (yl_indexArr (k := offs v0 + ((k : Nat) : Int).toNat * encPr.sz + 1) rfl rfl Try.underlying149 sz_5 (by decide) (by decide) (by rfl)) rfl rfl ?_; intro a hf
    refine rd hf rfl (yl_load Try.underlying5 rfl rfl (hE.app.cell hj (f := 1) rfl)) rfl rfl ?_; intro a hf
    refine rd hf rfl (yl_conv64 rfl Try.underlying5 Try.underlying2 (by unfold inI64; omega)) rfl rfl ?_; intro a hf
    refine rd hf rfl (yl_build rfl Try.underlying90 zr_90 (places := [(0, 1), (1, 1)]) (by kernel_rfl) (by kernel_rfl) rfl) rfl rfl ?_; intro a hf
    refine ef hf hT rfl rfl (ef_buildSlice (E := encPl) (xs := [p.toP]) rfl rfl Try.underlying81 zs_90 rfl (by decide) rfl (by decide)) rfl (l' := [(25, _), (24, _), (23, _), (22, _), (21, _), (20, _), (19, _), (18, _), (17, _), (16, _), (15, _), (14, _), (13, _), (12, _), (11, _), (8, _), (4, _), (3, _), (0, _)]) rfl ?_; rintro a w one L ⟨b1, p1, hvp1, hp1, rfl⟩ hf hT
    replace hT : Tot _ _ ([_, _] ++ ([] ++ rs)) := hT.bring 1
    refine ef hf hT rfl rfl (ef_append (E := encPl) (L := [_]) rfl rfl Try.underlying81 zb_90 rfl hD (hp1.els (.tail _ (.head _))) (by simp; omega) (by simp [maxLen]; omega)) rfl (l' := [(26, _), (25, _), (24, _), (23, _), (22, _), (21, _), (20, _), (19, _), (18, _), (17, _), (16, _), (15, _), (14, _), (13, _), (12, _), (11, _), (8, _), (4, _), (3, _), (0, _)]) rfl ?_; rintro a w q2 L ⟨X1, hS1, rfl⟩ hf hT
    refine rw_ hf rfl (yl_assign rfl) rfl (l' := [(3, _), (27, _), (26, _), (25, _), (24, _), (23, _), (22, _), (21, _), (20, _), (19, _), (18, _), (17, _), (16, _), (15, _), (14, _), (13, _), (12, _), (11, _), (8, _), (4, _), (0, _)]) rfl ?_; intro a hf
    refine plan_nil ?_
    replace hf := hf.sel [3, 4, 0] (l' := [(3, _), (4, _), (0, _)]) rfl
    -- region 4 (outright.go:306)
    refine wp_reg ([]) ([_, _] ++ rs) [(0, true), (1, true), (2, true)] mixed (by kernel_rfl) (hT) ?_; intro w hT
    refine rd hf rfl (yl_move rfl) rfl rfl ?_; intro a hf
    refine rd hf rfl (yl_add rfl rfl (by unfold inI64; omega)) rfl rfl ?_; intro a hf
    refine rw_ hf rfl (yl_assign rfl) rfl (l' := [(4, _), (10, _), (9, _), (3, _), (0, _)]) rfl ?_; intro a hf
    refine plan_nil ?_
    exact ⟨(k + 1, q2), _, hf.sel [4, 3, 0] rfl, ⟨by omega, _, by rw [List.take_succ_eq_append_getElem hltk, List.map_append, hpk]; exact hS1, rfl⟩, (hT.brings [1]).tail, by first | omega | (dsimp only; omega)⟩
  · -- else
    obtain rfl : k = ps.length := by omega
    rw [List.take_length] at hD
    refine wpIn_exit ?_
    refine then_exit ?_
    refine then_exit ?_
    refine inBlock_hit ?_
    refine wpIn_seq ?_
    -- region 6 (outright.go:309)
    refine wp_reg ([]) ([_] ++ rs) [(0, true), (1, true)] mixed (by kernel_rfl) (hT) ?_; intro w hT
    refine rd hf rfl (yl_move rfl) rfl rfl ?_; intro a hf
    refine rd hf rfl (yl_assign rfl) rfl rfl ?_; intro a hf
    refine plan_nil ?_
    replace hf := hf.sel [2] (l' := [(2, _)]) rfl
    refine wpIn_ret ?_
    exact body_ret hf (L := [_]) (hT) rfl rfl ⟨_, hD, rfl⟩
theorem BufferBest_spec {e : Env} {w : World} {rs : List Part} (ps : List Pr) (hps : ∀ p ∈ ps, p.Ok) (v0 : Value) (hE : Els encPr rs v0 ps) (y z : Int) (hy0 : 0 ≤ y ∧ y ≤ 65535) (hz0 : 0 ≤ z ∧ z ≤ 65535) (b : Nat) (hT : Tot e w rs) : Spec Try.prog 8 #[v0, .int .u16 y, .int .u32 (b : Int), .int .u16 z] e w rs (fun v L => v = .bool true ∧ L = []) := by
  refine spec_body Try.func8 rfl Try.ntmps8 rfl rfl ?_
  intro a hf
  refine wpIn_seq ?_
  -- region 0 (outright.go:313)
  refine wp_reg ([]) ([] ++ rs) [(0, true)] mixed (by kernel_rfl) (hT) ?_; intro w hT
  refine rd hf rfl (yl_assign rfl) rfl rfl ?_; intro a hf
  refine plan_nil ?_
  refine wpIn_seq ?_
  refine wpIn_seq ?_
  -- region 1 (outright.go:314)
  refine wp_reg ([]) ([] ++ rs) [(0, true), (1, true), (2, true)] mixed (by kernel_rfl) (hT) ?_; intro w hT
  refine rd hf rfl (yl_move rfl) rfl rfl ?_; intro a hf
  refine rd hf rfl (yl_lenE rfl Try.underlying86 hE.app) rfl rfl ?_; intro a hf
  refine rd hf rfl (yl_cmp rfl rfl rfl) rfl rfl ?_; intro a hf
  refine plan_nil ?_
  replace hf := hf.sel [27, 0, 1, 2, 3] (l' := [(27, _), (0, _), (1, _), (2, _), (3, _)]) rfl
  refine wp_ifd hf rfl (fun h20 => ?_) (fun h20 => ?_)
  · -- then
    refine wpIn_seq ?_
    -- region 2 (outright.go:315)
    refine wp_reg ([]) ([] ++ rs) [(0, false), (1, true)] mixed (by kernel_rfl) (hT) ?_; intro w hT
    refine ef_call hf rfl (wanted_none _ _ rfl) rfl rfl (by kernel_rfl) (Spec.frame (L2 := []) (fine_spec hT)) rfl (l' := [(27, _), (0, _), (1, _), (2, _), (3, _)]) rfl ?_; rintro a w v L ⟨L1, ⟨rfl, rfl⟩, rfl⟩ hf hT
    refine rd hf rfl (yl_assign rfl) rfl rfl ?_; intro a hf
    refine plan_nil ?_
    replace hf := hf.sel [8] (l' := [(8, _)]) rfl
    refine wpIn_ret ?_
    exact body_ret hf (L := []) hT rfl rfl ⟨rfl, rfl⟩
  · -- else
    refine wpIn_skip ?_
    refine wpIn_seq ?_
    -- region 3 (outright.go:317)
    refine wp_reg ([]) ([] ++ rs) [(0, true), (1, false), (2, true)] mixed (by kernel_rfl) (hT) ?_; intro w hT
    refine rd hf rfl (yl_move rfl) rfl rfl ?_; intro a hf
    refine ef_call hf rfl (wanted_none _ _ rfl) rfl rfl (by kernel_rfl) (Spec.frame (L2 := []) (parcels_spec ps hps (by omega) _ hE.app hT)) rfl (l' := [(29, _), (27, _), (0, _), (1, _), (2, _), (3, _)]) rfl ?_; rintro a w vp L ⟨L1, ⟨XP, hXP0, rfl⟩, rfl⟩ hf hT
    obtain ⟨xs, hxs⟩ : ∃ xs, xs = ps.map Pr.toP := ⟨_, rfl⟩
    have hok : ∀ x ∈ xs, Pok x := fun x hx => by rw [hxs] at hx; obtain ⟨p, hp, rfl⟩ := List.mem_map.1 hx; exact Pr.pok (hps p hp)
    have hn20 : xs.length ≤ 20 := by rw [hxs, List.length_map]; omega
    have hn24 : xs.length ≤ 24 := by omega
    rw [← hxs] at hXP0
    obtain ⟨A0, cp, rfl, hcap⟩ := hXP0.shape
    have hXP := hXP0
    refine rd hf rfl (yl_assign rfl) rfl rfl ?_; intro a hf
    refine plan_nil ?_
    replace hf := hf.sel [9, 1, 2, 3] (l' := [(9, _), (1, _), (2, _), (3, _)]) rfl
    refine wpIn_seq ?_
    -- region 4 (outright.go:318)
    refine wp_reg ([]) ([_] ++ rs) [(0, true), (1, true), (2, true), (3, true)] mixed (by kernel_rfl) (hT) ?_; intro w hT
    refine rd hf rfl (yl_move rfl) rfl rfl ?_; intro a hf
    refine rd hf rfl (yl_conv64 rfl Try.underlying22 Try.underlying2 (by unfold inI64; omega)) rfl rfl ?_; intro a hf
    refine rd hf rfl (yl_rem rfl rfl (by omega) (by decide)) rfl rfl ?_; intro a hf
    refine rd hf rfl (yl_assign rfl) rfl rfl ?_; intro a hf
    refine plan_nil ?_
    obtain ⟨m, hm⟩ : ∃ m, m = y % 3000 := ⟨_, rfl⟩
    have hm1 : 0 ≤ m ∧ m < 3000 := by omega
    rw [← hm] at hf
    replace hf := hf.sel [10, 9, 2, 3] (l' := [(10, _), (9, _), (2, _), (3, _)]) rfl
    refine wpIn_seq ?_
    -- region 5 (outright.go:319)
    refine wp_reg ([]) ([_] ++ rs) [(0, true), (1, true), (2, false), (3, true), (4, true), (5, true), (6, true), (7, true), (8, true), (9, true)] mixed (by kernel_rfl) (hT) ?_; intro w hT
    refine rd hf rfl (yl_move rfl) rfl rfl ?_; intro a hf
    refine rd hf rfl (yl_move rfl) rfl rfl ?_; intro a hf
    refine ef_call hf rfl (wanted_none _ _ rfl) rfl rfl (by kernel_rfl) (Spec.frame (L2 := []) (Best_specN xs A0 xs.length cp (hXP.els (.head _)) hcap m hT)) rfl (l' := [(36, _), (35, _), (10, _), (9, _), (2, _), (3, _)]) rfl ?_; rintro a w v L ⟨L1, ⟨q1, o1, w1, e1, X1, rfl, hX1, rfl, hb1⟩, rfl⟩ hf hT
    obtain ⟨t1, rfl, rfl, rfl, htop1⟩ := hb1.ok hn24 hok (by omega)
    refine rd hf rfl (yl_move rfl) rfl rfl ?_; intro a hf
    refine rd hf rfl (yl_extract rfl rfl) rfl rfl ?_; intro a hf
    refine rd hf rfl (yl_extract rfl rfl) rfl rfl ?_; intro a hf
    refine rd hf rfl (yl_extract rfl rfl) rfl rfl ?_; intro a hf
    refine rd hf rfl (yl_assign rfl) rfl rfl ?_; intro a hf
    refine rd hf rfl (yl_assign rfl) rfl rfl ?_; intro a hf
    refine rd hf rfl (yl_assign rfl) rfl rfl ?_; intro a hf
    refine plan_nil ?_
    have hol : (cidxI xs.length 24 0 t1.b).length = (cidx xs.length 24 0 t1.b).length := by simp [cidxI]
    have hW1 := idx_w hn24 hok htop1.mem.1
    have hS1 := idx_s hn24 hok htop1.mem.1
    have hs1m : t1.s ≤ m := htop1.mem.2
    have ht1r := all_rng xs 24 hn24 hok t1 htop1.mem.1
    obtain ⟨_, _, hr1, hr2, hr3, hr4⟩ := ht1r
    have hcl : (cidx xs.length 24 0 t1.b).length ≤ 24 := Nat.le_trans (idx_len ..) hn24
    replace hf := hf.sel [13, 12, 11, 10, 9, 2, 3] (l' := [(13, _), (12, _), (11, _), (10, _), (9, _), (2, _), (3, _)]) rfl
    refine wpIn_seq ?_
    refine wpIn_seq ?_
    -- region 6 (outright.go:320)
    refine wp_reg ([]) ([_, _] ++ rs) [(0, true), (1, true)] mixed (by kernel_rfl) (hT) ?_; intro w hT
    refine rd hf rfl (yl_move rfl) rfl rfl ?_; intro a hf
    refine rd hf rfl (yl_cmp rfl rfl rfl) rfl rfl ?_; intro a hf
    refine plan_nil ?_
    refine wp_ifd hf rfl (fun he => ?_) (fun he => ?_)
    · -- then
      exact absurd rfl he
    · -- else
      refine wpIn_skip ?_
      refine wpIn_seq ?_
      -- region 8 (outright.go:323)
      refine wp_reg ([]) ([_, _] ++ rs) [(0, true), (1, true)] mixed (by kernel_rfl) (hT) ?_; intro w hT
      refine rd hf rfl (yl_assign rfl) rfl rfl ?_; intro a hf
      refine rd hf rfl (yl_assign rfl) rfl rfl ?_; intro a hf
      refine plan_nil ?_
      replace hf := hf.sel [15, 14, 12, 11, 10, 9, 2, 3] (l' := [(15, _), (14, _), (12, _), (11, _), (10, _), (9, _), (2, _), (3, _)]) rfl
      refine wpIn_seq ?_
      refine wpIn_seq ?_
      -- region 9 (outright.go:324)
      refine wp_reg ([]) ([_, _] ++ rs) [(0, true)] mixed (by kernel_rfl) (hT) ?_; intro w hT
      refine rd hf rfl (yl_assign rfl) rfl rfl ?_; intro a hf
      refine plan_nil ?_
      refine wpIn_block ?_
      refine wp_loopS (σ := Nat) (fun k => [(16, .int .i64 (k : Nat)), (14, .int .i64 (isum (fw xs) ((cidx xs.length 24 0 t1.b).take k))), (15, .int .i64 (isum (fs xs) ((cidx xs.length 24 0 t1.b).take k)))]) [(12, _), (11, _), (10, _), (9, _), (2, _), (3, _)] (fun k L => L = [] ∧ k ≤ (cidx xs.length 24 0 t1.b).length) (fun k => (cidx xs.length 24 0 t1.b).length - k) 0 (L := []) (R := [_, _] ++ rs) (hf.sel [16, 14, 15, 12, 11, 10, 9, 2, 3] rfl) (⟨rfl, Nat.zero_le _⟩) hT ?_
      clear hf hT; rintro k a w L hf ⟨rfl, hk⟩ hT
      replace hf : Fr _ [(16, .int .i64 (k : Nat)), (14, .int .i64 (isum (fw xs) ((cidx xs.length 24 0 t1.b).take k))), (15, .int .i64 (isum (fs xs) ((cidx xs.length 24 0 t1.b).take k))), (12, _), (11, _), (10, _), (9, _), (2, _), (3, _)] _ _ := hf
      refine wpIn_seq ?_
      refine wpIn_seq ?_
      -- region 10 (outright.go:324)
      refine wp_reg ([]) ([_, _] ++ rs) [(0, true), (1, true), (2, true), (3, true)] mixed (by kernel_rfl) (hT) ?_; intro w hT
      refine rd hf rfl (yl_move rfl) rfl rfl ?_; intro a hf
      refine rd hf rfl (yl_move rfl) rfl rfl ?_; intro a hf
      refine rd hf rfl (yl_lenE rfl Try.underlying82 (hX1.els (.head _))) rfl rfl ?_; intro a hf
      refine rd hf rfl (yl_cmp rfl rfl rfl) rfl rfl ?_; intro a hf
      refine plan_nil ?_
      replace hf := hf.sel [46, 16, 14, 15, 12, 11, 10, 9, 2, 3] (l' := [(46, _), (16, _), (14, _), (15, _), (12, _), (11, _), (10, _), (9, _), (2, _), (3, _)]) rfl
      refine wp_ifd hf rfl (fun hlt => ?_) (fun hlt => ?_)
      · -- then
        have hltk : k < (cidx xs.length 24 0 t1.b).length := by omega
        obtain ⟨j, hcj⟩ : ∃ j, (cidx xs.length 24 0 t1.b)[k]? = some j := ⟨_, List.getElem?_eq_getElem hltk⟩
        have hcj' : (cidx xs.length 24 0 t1.b)[k] = j := (List.getElem?_eq_some_iff.1 hcj).2
        have hj : (cidxI xs.length 24 0 t1.b)[k]? = some ((j : Nat) : Int) := by unfold cidxI; rw [List.getElem?_map, hcj]; rfl
        have hjr := idx_ge _ _ _ _ j (List.mem_of_getElem? hcj)
        obtain ⟨x, hjx⟩ : ∃ x, xs[j]? = some x := ⟨xs[j]'(by omega), List.getElem?_eq_getElem _⟩
        obtain ⟨p1, p2, p3, p4⟩ := hok x (List.mem_of_getElem? hjx)
        have hsw : isum (fw xs) ((cidx xs.length 24 0 t1.b).take (k + 1)) = isum (fw xs) ((cidx xs.length 24 0 t1.b).take k) + x.wo := by rw [List.take_succ_eq_append_getElem hltk, hcj', isum_snoc, fw_at hjx]
        have hss : isum (fs xs) ((cidx xs.length 24 0 t1.b).take (k + 1)) = isum (fs xs) ((cidx xs.length 24 0 t1.b).take k) + x.sz := by rw [List.take_succ_eq_append_getElem hltk, hcj', isum_snoc, fs_at hjx]
        have hrw := isum_rng (fw_rng hok) ((cidx xs.length 24 0 t1.b).take k)
        have hrs := isum_rng (fs_rng hok) ((cidx xs.length 24 0 t1.b).take k)
        have htl : ((cidx xs.length 24 0 t1.b).take k).length = k := by rw [List.length_take]; omega
        rw [htl] at hrw hrs
        refine wpIn_skip ?_
        refine wpIn_seq ?_
        refine wpIn_block ?_
        refine wpIn_seq ?_
        refine wpIn_seq ?_
        -- region 12 (outright.go:325)
        refine wp_reg ([]) ([_, _] ++ rs) [(0, true), (1, true), (2, true), (3, true), (4, true), (5, true), (6, true), (7, true), (8, true), (9, true), (10, true), (11, true), (12, true), (13, true), (14, true), (15, true), (16, true), (17, true), (18, true), (19, true), (20, true), (21, true), (22, true), (23, true), (24, true), (25, true), (26, true), (27, true), (28, true), (29, true)] mixed (by kernel_rfl) (hT) ?_; intro w hT
        refine rd hf rfl (yl_move rfl) rfl rfl ?_; intro a hf
        refine rd hf rfl (yl_move rfl) rfl rfl ?_; intro a hf
        refine rd hf rfl (yl_indexE rfl rfl Try.underlying82 sz_3 (hX1.els (.head _)) (by omega) (by omega)) rfl rfl ?_; intro a hf
        refine rd hf rfl (yl_load Try.underlying3 rfl rfl ((hX1.els (.head _)).cell hj (f := 0) rfl)) rfl rfl ?_; intro a hf
        refine rd hf rfl (yl_cmp rfl rfl rfl) rfl rfl ?_; intro a hf
        refine rd hf rfl (yl_move rfl) rfl rfl ?_; intro a hf
        refine rdT hf rfl rfl rfl rfl (by first | exact (decide_eq_false (by omega)) | simp [(decide_eq_false (by omega))]) (yl_move rfl) rfl (l' := [(55, _), (54, _), (53, _), (52, _), (51, _), (50, _), (49, _), (46, _), (16, _), (14, _), (15, _), (12, _), (11, _), (10, _), (9, _), (2, _), (3, _)]) rfl ?_; intro a hf
        refine rdT hf rfl rfl rfl rfl (by first | exact (decide_eq_false (by omega)) | simp [(decide_eq_false (by omega))]) (yl_move rfl) rfl (l' := [(56, _), (55, _), (54, _), (53, _), (52, _), (51, _), (50, _), (49, _), (46, _), (16, _), (14, _), (15, _), (12, _), (11, _), (10, _), (9, _), (2, _), (3, _)]) rfl ?_; intro a hf
        refine rdT hf rfl rfl rfl rfl (by first | exact (decide_eq_false (by omega)) | simp [(decide_eq_false (by omega))]) (yl_indexE rfl rfl Try.underlying82 sz_3 (hX1.els (.head _)) (by omega) (by omega)) rfl (l' := [(57, _), (56, _), (55, _), (54, _), (53, _), (52, _), (51, _), (50, _), (49, _), (46, _), (16, _), (14, _), (15, _), (12, _), (11, _), (10, _), (9, _), (2, _), (3, _)]) rfl ?_; intro a hf
        refine rdT hf rfl rfl rfl rfl (by first | exact (decide_eq_false (by omega)) | simp [(decide_eq_false (by omega))]) (yl_load Try.underlying3 rfl rfl ((hX1.els (.head _)).cell hj (f := 0) rfl)) rfl (l' := [(58, _), (57, _), (56, _), (55, _), (54, _), (53, _), (52, _), (51, _), (50, _), (49, _), (46, _), (16, _), (14, _), (15, _), (12, _), (11, _), (10, _), (9, _), (2, _), (3, _)]) rfl ?_; intro a hf
        refine rdT hf rfl rfl rfl rfl (by first | exact (decide_eq_false (by omega)) | simp [(decide_eq_false (by omega))]) (yl_move rfl) rfl (l' := [(59, _), (58, _), (57, _), (56, _), (55, _), (54, _), (53, _), (52, _), (51, _), (50, _), (49, _), (46, _), (16, _), (14, _), (15, _), (12, _), (11, _), (10, _), (9, _), (2, _), (3, _)]) rfl ?_; intro a hf
        refine rdT hf rfl rfl rfl rfl (by first | exact (decide_eq_false (by omega)) | simp [(decide_eq_false (by omega))]) (yl_lenE rfl Try.underlying81 (hXP.els (.tail _ (.head _)))) rfl (l' := [(60, _), (59, _), (58, _), (57, _), (56, _), (55, _), (54, _), (53, _), (52, _), (51, _), (50, _), (49, _), (46, _), (16, _), (14, _), (15, _), (12, _), (11, _), (10, _), (9, _), (2, _), (3, _)]) rfl ?_; intro a hf
        refine rdT hf rfl rfl rfl rfl (by first | exact (decide_eq_false (by omega)) | simp [(decide_eq_false (by omega))]) (yl_cmp rfl rfl rfl) rfl (l' := [(61, _), (60, _), (59, _), (58, _), (57, _), (56, _), (55, _), (54, _), (53, _), (52, _), (51, _), (50, _), (49, _), (46, _), (16, _), (14, _), (15, _), (12, _), (11, _), (10, _), (9, _), (2, _), (3, _)]) rfl ?_; intro a hf
        refine rd hf rfl (yl_pickFF rfl (decide_eq_false (by omega)) rfl) rfl rfl ?_; intro a hf
        refine rd hf rfl (yl_move rfl) rfl rfl ?_; intro a hf
        refine rdT hf rfl rfl rfl rfl (by first | exact (decide_eq_false (by omega)) | simp [(decide_eq_false (by omega))]) (yl_move rfl) rfl (l' := [(64, _), (63, _), (62, _), (61, _), (60, _), (59, _), (58, _), (57, _), (56, _), (55, _), (54, _), (53, _), (52, _), (51, _), (50, _), (49, _), (46, _), (16, _), (14, _), (15, _), (12, _), (11, _), (10, _), (9, _), (2, _), (3, _)]) rfl ?_; intro a hf
        refine rdT hf rfl rfl rfl rfl (by first | exact (decide_eq_false (by omega)) | simp [(decide_eq_false (by omega))]) (yl_cmp rfl rfl rfl) rfl (l' := [(65, _), (64, _), (63, _), (62, _), (61, _), (60, _), (59, _), (58, _), (57, _), (56, _), (55, _), (54, _), (53, _), (52, _), (51, _), (50, _), (49, _), (46, _), (16, _), (14, _), (15, _), (12, _), (11, _), (10, _), (9, _), (2, _), (3, _)]) rfl ?_; intro a hf
        refine rdT hf rfl rfl rfl rfl (by first | exact (decide_eq_false (by omega)) | simp [(decide_eq_false (by omega))]) (yl_move rfl) rfl (l' := [(66, _), (65, _), (64, _), (63, _), (62, _), (61, _), (60, _), (59, _), (58, _), (57, _), (56, _), (55, _), (54, _), (53, _), (52, _), (51, _), (50, _), (49, _), (46, _), (16, _), (14, _), (15, _), (12, _), (11, _), (10, _), (9, _), (2, _), (3, _)]) rfl ?_; intro a hf
        by_cases hg17 : (0 : Int) < ((k : Nat) : Int)
        · have hgT1 : decide ((0 : Int) < ((k : Nat) : Int)) = true := by simpa using hg17
          obtain ⟨j', hcp⟩ : ∃ j', (cidx xs.length 24 0 t1.b)[k - 1]? = some j' := ⟨_, List.getElem?_eq_getElem (by omega)⟩
          have hcp' : (cidx xs.length 24 0 t1.b)[k - 1]'(by omega) = j' := (List.getElem?_eq_some_iff.1 hcp).2
          have hjp : (cidxI xs.length 24 0 t1.b)[((k : Int) - 1).toNat]? = some ((j' : Nat) : Int) := by rw [show ((k : Int) - 1).toNat = k - 1 by omega]; unfold cidxI; rw [List.getElem?_map, hcp]; rfl
          have hlt2 : j' < j := by have h1 := List.pairwise_iff_getElem.1 (idx_sorted xs.length 24 0 t1.b) (k - 1) k (by omega) hltk (by omega); rw [hcp', hcj'] at h1; exact h1
          refine rdT hf rfl rfl rfl rfl (by first | exact hgT1 | simp [hgT1]) (yl_move rfl) rfl (l' := [(67, _), (66, _), (65, _), (64, _), (63, _), (62, _), (61, _), (60, _), (59, _), (58, _), (57, _), (56, _), (55, _), (54, _), (53, _), (52, _), (51, _), (50, _), (49, _), (46, _), (16, _), (14, _), (15, _), (12, _), (11, _), (10, _), (9, _), (2, _), (3, _)]) rfl ?_; intro a hf
          refine rdT hf rfl rfl rfl rfl (by first | exact hgT1 | simp [hgT1]) (yl_move rfl) rfl (l' := [(68, _), (67, _), (66, _), (65, _), (64, _), (63, _), (62, _), (61, _), (60, _), (59, _), (58, _), (57, _), (56, _), (55, _), (54, _), (53, _), (52, _), (51, _), (50, _), (49, _), (46, _), (16, _), (14, _), (15, _), (12, _), (11, _), (10, _), (9, _), (2, _), (3, _)]) rfl ?_; intro a hf
          refine rdT hf rfl rfl rfl rfl (by first | exact hgT1 | simp [hgT1]) (yl_indexE rfl rfl Try.underlying82 sz_3 (hX1.els (.head _)) (by omega) (by omega)) rfl (l' := [(69, _), (68, _), (67, _), (66, _), (65, _), (64, _), (63, _), (62, _), (61, _), (60, _), (59, _), (58, _), (57, _), (56, _), (55, _), (54, _), (53, _), (52, _), (51, _), (50, _), (49, _), (46, _), (16, _), (14, _), (15, _), (12, _), (11, _), (10, _), (9, _), (2, _), (3, _)]) rfl ?_; intro a hf
          refine rdT hf rfl rfl rfl rfl (by first | exact hgT1 | simp [hgT1]) (yl_load Try.underlying3 rfl rfl ((hX1.els (.head _)).cell hj (f := 0) rfl)) rfl (l' := [(70, _), (69, _), (68, _), (67, _), (66, _), (65, _), (64, _), (63, _), (62, _), (61, _), (60, _), (59, _), (58, _), (57, _), (56, _), (55, _), (54, _), (53, _), (52, _), (51, _), (50, _), (49, _), (46, _), (16, _), (14, _), (15, _), (12, _), (11, _), (10, _), (9, _), (2, _), (3, _)]) rfl ?_; intro a hf
          refine rdT hf rfl rfl rfl rfl (by first | exact hgT1 | simp [hgT1]) (yl_move rfl) rfl (l' := [(71, _), (70, _), (69, _), (68, _), (67, _), (66, _), (65, _), (64, _), (63, _), (62, _), (61, _), (60, _), (59, _), (58, _), (57, _), (56, _), (55, _), (54, _), (53, _), (52, _), (51, _), (50, _), (49, _), (46, _), (16, _), (14, _), (15, _), (12, _), (11, _), (10, _), (9, _), (2, _), (3, _)]) rfl ?_; intro a hf
          refine rdT hf rfl rfl rfl rfl (by first | exact hgT1 | simp [hgT1]) (yl_move rfl) rfl (l' := [(72, _), (71, _), (70, _), (69, _), (68, _), (67, _), (66, _), (65, _), (64, _), (63, _), (62, _), (61, _), (60, _), (59, _), (58, _), (57, _), (56, _), (55, _), (54, _), (53, _), (52, _), (51, _), (50, _), (49, _), (46, _), (16, _), (14, _), (15, _), (12, _), (11, _), (10, _), (9, _), (2, _), (3, _)]) rfl ?_; intro a hf
          refine rdT hf rfl rfl rfl rfl (by first | exact hgT1 | simp [hgT1]) (yl_sub rfl rfl (by unfold inI64; omega)) rfl (l' := [(73, _), (72, _), (71, _), (70, _), (69, _), (68, _), (67, _), (66, _), (65, _), (64, _), (63, _), (62, _), (61, _), (60, _), (59, _), (58, _), (57, _), (56, _), (55, _), (54, _), (53, _), (52, _), (51, _), (50, _), (49, _), (46, _), (16, _), (14, _), (15, _), (12, _), (11, _), (10, _), (9, _), (2, _), (3, _)]) rfl ?_; intro a hf
          refine rdT hf rfl rfl rfl rfl (by first | exact hgT1 | simp [hgT1]) (yl_indexE rfl rfl Try.underlying82 sz_3 (hX1.els (.head _)) (by omega) (by omega)) rfl (l' := [(74, _), (73, _), (72, _), (71, _), (70, _), (69, _), (68, _), (67, _), (66, _), (65, _), (64, _), (63, _), (62, _), (61, _), (60, _), (59, _), (58, _), (57, _), (56, _), (55, _), (54, _), (53, _), (52, _), (51, _), (50, _), (49, _), (46, _), (16, _), (14, _), (15, _), (12, _), (11, _), (10, _), (9, _), (2, _), (3, _)]) rfl ?_; intro a hf
          refine rdT hf rfl rfl rfl rfl (by first | exact hgT1 | simp [hgT1]) (yl_load Try.underlying3 rfl rfl ((hX1.els (.head _)).cell hjp (f := 0) rfl)) rfl (l' := [(75, _), (74, _), (73, _), (72, _), (71, _), (70, _), (69, _), (68, _), (67, _), (66, _), (65, _), (64, _), (63, _), (62, _), (61, _), (60, _), (59, _), (58, _), (57, _), (56, _), (55, _), (54, _), (53, _), (52, _), (51, _), (50, _), (49, _), (46, _), (16, _), (14, _), (15, _), (12, _), (11, _), (10, _), (9, _), (2, _), (3, _)]) rfl ?_; intro a hf
          refine rdT hf rfl rfl rfl rfl (by first | exact hgT1 | simp [hgT1]) (yl_cmp rfl rfl rfl) rfl (l' := [(76, _), (75, _), (74, _), (73, _), (72, _), (71, _), (70, _), (69, _), (68, _), (67, _), (66, _), (65, _), (64, _), (63, _), (62, _), (61, _), (60, _), (59, _), (58, _), (57, _), (56, _), (55, _), (54, _), (53, _), (52, _), (51, _), (50, _), (49, _), (46, _), (16, _), (14, _), (15, _), (12, _), (11, _), (10, _), (9, _), (2, _), (3, _)]) rfl ?_; intro a hf
          refine rdT hf rfl rfl rfl rfl (by first | exact (decide_eq_false (by omega)) | simp [(decide_eq_false (by omega))]) (yl_pickTT rfl hgT1 rfl) rfl (l' := [(77, _), (76, _), (75, _), (74, _), (73, _), (72, _), (71, _), (70, _), (69, _), (68, _), (67, _), (66, _), (65, _), (64, _), (63, _), (62, _), (61, _), (60, _), (59, _), (58, _), (57, _), (56, _), (55, _), (54, _), (53, _), (52, _), (51, _), (50, _), (49, _), (46, _), (16, _), (14, _), (15, _), (12, _), (11, _), (10, _), (9, _), (2, _), (3, _)]) rfl ?_; intro a hf
          refine rd hf rfl (yl_pickFF rfl (decide_eq_false (by omega)) rfl) rfl rfl ?_; intro a hf
          refine plan_nil ?_
          replace hf := hf.sel [78, 16, 14, 15, 12, 11, 10, 9, 2, 3] (l' := [(78, _), (16, _), (14, _), (15, _), (12, _), (11, _), (10, _), (9, _), (2, _), (3, _)]) rfl
          refine wp_ifd hf rfl (fun hdec => ?_) (fun hdec => ?_)
          · -- then
            exact absurd hdec (by omega)
          · -- else
            refine wpIn_skip ?_
            -- region 14 (outright.go:328)
            refine wp_reg ([]) ([_, _] ++ rs) [(0, true), (1, true), (2, true), (3, true), (4, true), (5, true), (6, true), (7, true), (8, true), (9, true), (10, true), (11, true), (12, true), (13, true), (14, true), (15, true), (16, true), (17, true), (18, true), (19, true), (20, true), (21, true)] mixed (by kernel_rfl) (hT) ?_; intro w hT
            refine rd hf rfl (yl_move rfl) rfl rfl ?_; intro a hf
            refine rd hf rfl (yl_move rfl) rfl rfl ?_; intro a hf
            refine rd hf rfl (yl_move rfl) rfl rfl ?_; intro a hf
            refine rd hf rfl (yl_move rfl) rfl rfl ?_; intro a hf
            refine rd hf rfl (yl_indexE rfl rfl Try.underlying82 sz_3 (hX1.els (.head _)) (by omega) (by omega)) rfl rfl ?_; intro a hf
            refine rd hf rfl (yl_load Try.underlying3 rfl rfl ((hX1.els (.head _)).cell hj (f := 0) rfl)) rfl rfl ?_; intro a hf
            refine rd hf rfl (yl_indexE rfl rfl Try.underlying81 sz_90 (hXP.els (.tail _ (.head _))) (by omega) (by omega)) rfl rfl ?_; intro a hf
            refine rd hf rfl (yl_faddr Try.underlying90 rfl rfl sz_2 rfl) rfl rfl ?_; intro a hf
            refine rd hf rfl (yl_load Try.underlying2 rfl rfl ((hXP.els (.tail _ (.head _))).cell hjx (f := 1) rfl)) rfl rfl ?_; intro a hf
            refine rd hf rfl (yl_add rfl rfl (by unfold inI64; omega)) rfl rfl ?_; intro a hf
            refine rd hf rfl (yl_move rfl) rfl rfl ?_; intro a hf
            refine rd hf rfl (yl_move rfl) rfl rfl ?_; intro a hf
            refine rd hf rfl (yl_move rfl) rfl rfl ?_; intro a hf
            refine rd hf rfl (yl_move rfl) rfl rfl ?_; intro a hf
            refine rd hf rfl (yl_indexE rfl rfl Try.underlying82 sz_3 (hX1.els (.head _)) (by omega) (by omega)) rfl rfl ?_; intro a hf
            refine rd hf rfl (yl_load Try.underlying3 rfl rfl ((hX1.els (.head _)).cell hj (f := 0) rfl)) rfl rfl ?_; intro a hf
            refine rd hf rfl (yl_indexE rfl rfl Try.underlying81 sz_90 (hXP.els (.tail _ (.head _))) (by omega) (by omega)) rfl rfl ?_; intro a hf
            refine rd hf rfl (yl_faddr Try.underlying90 rfl rfl sz_2 rfl) rfl rfl ?_; intro a hf
            refine rd hf rfl (yl_load Try.underlying2 rfl rfl ((hXP.els (.tail _ (.head _))).cell hjx (f := 0) rfl)) rfl rfl ?_; intro a hf
            refine rd hf rfl (yl_add rfl rfl (by unfold inI64; omega)) rfl rfl ?_; intro a hf
            refine rw_ hf rfl (yl_assign rfl) rfl (l' := [(14, _), (98, _), (97, _), (96, _), (95, _), (94, _), (93, _), (92, _), (91, _), (90, _), (89, _), (88, _), (87, _), (86, _), (85, _), (84, _), (83, _), (82, _), (81, _), (80, _), (79, _), (78, _), (16, _), (15, _), (12, _), (11, _), (10, _), (9, _), (2, _), (3, _)]) rfl ?_; intro a hf
            refine rw_ hf rfl (yl_assign rfl) rfl (l' := [(15, _), (14, _), (98, _), (97, _), (96, _), (95, _), (94, _), (93, _), (92, _), (91, _), (90, _), (89, _), (88, _), (87, _), (86, _), (85, _), (84, _), (83, _), (82, _), (81, _), (80, _), (79, _), (78, _), (16, _), (12, _), (11, _), (10, _), (9, _), (2, _), (3, _)]) rfl ?_; intro a hf
            refine plan_nil ?_
            replace hf := hf.sel [15, 14, 16, 12, 11, 10, 9, 2, 3] (l' := [(15, _), (14, _), (16, _), (12, _), (11, _), (10, _), (9, _), (2, _), (3, _)]) rfl
            -- region 11 (outright.go:324)
            refine wp_reg ([]) ([_, _] ++ rs) [(0, true), (1, true), (2, true)] mixed (by kernel_rfl) (hT) ?_; intro w hT
            refine rd hf rfl (yl_move rfl) rfl rfl ?_; intro a hf
            refine rd hf rfl (yl_add rfl rfl (by unfold inI64; omega)) rfl rfl ?_; intro a hf
            refine rw_ hf rfl (yl_assign rfl) rfl (l' := [(16, _), (48, _), (47, _), (15, _), (14, _), (12, _), (11, _), (10, _), (9, _), (2, _), (3, _)]) rfl ?_; intro a hf
            refine plan_nil ?_
            exact ⟨k + 1, _, (by have h := hf.sel [16, 14, 15, 12, 11, 10, 9, 2, 3] (l' := [(16, _), (14, _), (15, _), (12, _), (11, _), (10, _), (9, _), (2, _), (3, _)]) rfl; rw [hsw, hss]; exact h), ⟨rfl, by omega⟩, hT, by first | omega | (dsimp only; omega)⟩
        · have hgT1 : decide ((0 : Int) < ((k : Nat) : Int)) = false := by simpa using hg17
          refine rdF hf rfl rfl rfl rfl (by first | exact hgT1 | simp [hgT1]) rfl (l' := [(67, _), (66, _), (65, _), (64, _), (63, _), (62, _), (61, _), (60, _), (59, _), (58, _), (57, _), (56, _), (55, _), (54, _), (53, _), (52, _), (51, _), (50, _), (49, _), (46, _), (16, _), (14, _), (15, _), (12, _), (11, _), (10, _), (9, _), (2, _), (3, _)]) rfl ?_; intro a hf
          refine rdF hf rfl rfl rfl rfl (by first | exact hgT1 | simp [hgT1]) rfl (l' := [(68, _), (67, _), (66, _), (65, _), (64, _), (63, _), (62, _), (61, _), (60, _), (59, _), (58, _), (57, _), (56, _), (55, _), (54, _), (53, _), (52, _), (51, _), (50, _), (49, _), (46, _), (16, _), (14, _), (15, _), (12, _), (11, _), (10, _), (9, _), (2, _), (3, _)]) rfl ?_; intro a hf
          refine rdF hf rfl rfl rfl rfl (by first | exact hgT1 | simp [hgT1]) rfl (l' := [(69, _), (68, _), (67, _), (66, _), (65, _), (64, _), (63, _), (62, _), (61, _), (60, _), (59, _), (58, _), (57, _), (56, _), (55, _), (54, _), (53, _), (52, _), (51, _), (50, _), (49, _), (46, _), (16, _), (14, _), (15, _), (12, _), (11, _), (10, _), (9, _), (2, _), (3, _)]) rfl ?_; intro a hf
          refine rdF hf rfl rfl rfl rfl (by first | exact hgT1 | simp [hgT1]) rfl (l' := [(70, _), (69, _), (68, _), (67, _), (66, _), (65, _), (64, _), (63, _), (62, _), (61, _), (60, _), (59, _), (58, _), (57, _), (56, _), (55, _), (54, _), (53, _), (52, _), (51, _), (50, _), (49, _), (46, _), (16, _), (14, _), (15, _), (12, _), (11, _), (10, _), (9, _), (2, _), (3, _)]) rfl ?_; intro a hf
          refine rdF hf rfl rfl rfl rfl (by first | exact hgT1 | simp [hgT1]) rfl (l' := [(71, _), (70, _), (69, _), (68, _), (67, _), (66, _), (65, _), (64, _), (63, _), (62, _), (61, _), (60, _), (59, _), (58, _), (57, _), (56, _), (55, _), (54, _), (53, _), (52, _), (51, _), (50, _), (49, _), (46, _), (16, _), (14, _), (15, _), (12, _), (11, _), (10, _), (9, _), (2, _), (3, _)]) rfl ?_; intro a hf
          refine rdF hf rfl rfl rfl rfl (by first | exact hgT1 | simp [hgT1]) rfl (l' := [(72, _), (71, _), (70, _), (69, _), (68, _), (67, _), (66, _), (65, _), (64, _), (63, _), (62, _), (61, _), (60, _), (59, _), (58, _), (57, _), (56, _), (55, _), (54, _), (53, _), (52, _), (51, _), (50, _), (49, _), (46, _), (16, _), (14, _), (15, _), (12, _), (11, _), (10, _), (9, _), (2, _), (3, _)]) rfl ?_; intro a hf
          refine rdF hf rfl rfl rfl rfl (by first | exact hgT1 | simp [hgT1]) rfl (l' := [(73, _), (72, _), (71, _), (70, _), (69, _), (68, _), (67, _), (66, _), (65, _), (64, _), (63, _), (62, _), (61, _), (60, _), (59, _), (58, _), (57, _), (56, _), (55, _), (54, _), (53, _), (52, _), (51, _), (50, _), (49, _), (46, _), (16, _), (14, _), (15, _), (12, _), (11, _), (10, _), (9, _), (2, _), (3, _)]) rfl ?_; intro a hf
          refine rdF hf rfl rfl rfl rfl (by first | exact hgT1 | simp [hgT1]) rfl (l' := [(74, _), (73, _), (72, _), (71, _), (70, _), (69, _), (68, _), (67, _), (66, _), (65, _), (64, _), (63, _), (62, _), (61, _), (60, _), (59, _), (58, _), (57, _), (56, _), (55, _), (54, _), (53, _), (52, _), (51, _), (50, _), (49, _), (46, _), (16, _), (14, _), (15, _), (12, _), (11, _), (10, _), (9, _), (2, _), (3, _)]) rfl ?_; intro a hf
          refine rdF hf rfl rfl rfl rfl (by first | exact hgT1 | simp [hgT1]) rfl (l' := [(75, _), (74, _), (73, _), (72, _), (71, _), (70, _), (69, _), (68, _), (67, _), (66, _), (65, _), (64, _), (63, _), (62, _), (61, _), (60, _), (59, _), (58, _), (57, _), (56, _), (55, _), (54, _), (53, _), (52, _), (51, _), (50, _), (49, _), (46, _), (16, _), (14, _), (15, _), (12, _), (11, _), (10, _), (9, _), (2, _), (3, _)]) rfl ?_; intro a hf
          refine rdF hf rfl rfl rfl rfl (by first | exact hgT1 | simp [hgT1]) rfl (l' := [(76, _), (75, _), (74, _), (73, _), (72, _), (71, _), (70, _), (69, _), (68, _), (67, _), (66, _), (65, _), (64, _), (63, _), (62, _), (61, _), (60, _), (59, _), (58, _), (57, _), (56, _), (55, _), (54, _), (53, _), (52, _), (51, _), (50, _), (49, _), (46, _), (16, _), (14, _), (15, _), (12, _), (11, _), (10, _), (9, _), (2, _), (3, _)]) rfl ?_; intro a hf
          refine rdT hf rfl rfl rfl rfl (by first | exact (decide_eq_false (by omega)) | simp [(decide_eq_false (by omega))]) (yl_pickFF rfl hgT1 rfl) rfl (l' := [(77, _), (76, _), (75, _), (74, _), (73, _), (72, _), (71, _), (70, _), (69, _), (68, _), (67, _), (66, _), (65, _), (64, _), (63, _), (62, _), (61, _), (60, _), (59, _), (58, _), (57, _), (56, _), (55, _), (54, _), (53, _), (52, _), (51, _), (50, _), (49, _), (46, _), (16, _), (14, _), (15, _), (12, _), (11, _), (10, _), (9, _), (2, _), (3, _)]) rfl ?_; intro a hf
          refine rd hf rfl (yl_pickFF rfl (decide_eq_false (by omega)) rfl) rfl rfl ?_; intro a hf
          refine plan_nil ?_
          replace hf := hf.sel [78, 16, 14, 15, 12, 11, 10, 9, 2, 3] (l' := [(78, _), (16, _), (14, _), (15, _), (12, _), (11, _), (10, _), (9, _), (2, _), (3, _)]) rfl
          refine wp_ifFF hf rfl (rfl) ?_
          refine wpIn_skip ?_
          -- region 14 (outright.go:328)
          refine wp_reg ([]) ([_, _] ++ rs) [(0, true), (1, true), (2, true), (3, true), (4, true), (5, true), (6, true), (7, true), (8, true), (9, true), (10, true), (11, true), (12, true), (13, true), (14, true), (15, true), (16, true), (17, true), (18, true), (19, true), (20, true), (21, true)] mixed (by kernel_rfl) (hT) ?_; intro w hT
          refine rd hf rfl (yl_move rfl) rfl rfl ?_; intro a hf
          refine rd hf rfl (yl_move rfl) rfl rfl ?_; intro a hf
          refine rd hf rfl (yl_move rfl) rfl rfl ?_; intro a hf
          refine rd hf rfl (yl_move rfl) rfl rfl ?_; intro a hf
          refine rd hf rfl (yl_indexE rfl rfl Try.underlying82 sz_3 (hX1.els (.head _)) (by omega) (by omega)) rfl rfl ?_; intro a hf
          refine rd hf rfl (yl_load Try.underlying3 rfl rfl ((hX1.els (.head _)).cell hj (f := 0) rfl)) rfl rfl ?_; intro a hf
          refine rd hf rfl (yl_indexE rfl rfl Try.underlying81 sz_90 (hXP.els (.tail _ (.head _))) (by omega) (by omega)) rfl rfl ?_; intro a hf
          refine rd hf rfl (yl_faddr Try.underlying90 rfl rfl sz_2 rfl) rfl rfl ?_; intro a hf
          refine rd hf rfl (yl_load Try.underlying2 rfl rfl ((hXP.els (.tail _ (.head _))).cell hjx (f := 1) rfl)) rfl rfl ?_; intro a hf
          refine rd hf rfl (yl_add rfl rfl (by unfold inI64; omega)) rfl rfl ?_; intro a hf
          refine rd hf rfl (yl_move rfl) rfl rfl ?_; intro a hf
          refine rd hf rfl (yl_move rfl) rfl rfl ?_; intro a hf
          refine rd hf rfl (yl_move rfl) rfl rfl ?_; intro a hf
          refine rd hf rfl (yl_move rfl) rfl rfl ?_; intro a hf
          refine rd hf rfl (yl_indexE rfl rfl Try.underlying82 sz_3 (hX1.els (.head _)) (by omega) (by omega)) rfl rfl ?_; intro a hf
          refine rd hf rfl (yl_load Try.underlying3 rfl rfl ((hX1.els (.head _)).cell hj (f := 0) rfl)) rfl rfl ?_; intro a hf
          refine rd hf rfl (yl_indexE rfl rfl Try.underlying81 sz_90 (hXP.els (.tail _ (.head _))) (by omega) (by omega)) rfl rfl ?_; intro a hf
          refine rd hf rfl (yl_faddr Try.underlying90 rfl rfl sz_2 rfl) rfl rfl ?_; intro a hf
          refine rd hf rfl (yl_load Try.underlying2 rfl rfl ((hXP.els (.tail _ (.head _))).cell hjx (f := 0) rfl)) rfl rfl ?_; intro a hf
          refine rd hf rfl (yl_add rfl rfl (by unfold inI64; omega)) rfl rfl ?_; intro a hf
          refine rw_ hf rfl (yl_assign rfl) rfl (l' := [(14, _), (98, _), (97, _), (96, _), (95, _), (94, _), (93, _), (92, _), (91, _), (90, _), (89, _), (88, _), (87, _), (86, _), (85, _), (84, _), (83, _), (82, _), (81, _), (80, _), (79, _), (78, _), (16, _), (15, _), (12, _), (11, _), (10, _), (9, _), (2, _), (3, _)]) rfl ?_; intro a hf
          refine rw_ hf rfl (yl_assign rfl) rfl (l' := [(15, _), (14, _), (98, _), (97, _), (96, _), (95, _), (94, _), (93, _), (92, _), (91, _), (90, _), (89, _), (88, _), (87, _), (86, _), (85, _), (84, _), (83, _), (82, _), (81, _), (80, _), (79, _), (78, _), (16, _), (12, _), (11, _), (10, _), (9, _), (2, _), (3, _)]) rfl ?_; intro a hf
          refine plan_nil ?_
          replace hf := hf.sel [15, 14, 16, 12, 11, 10, 9, 2, 3] (l' := [(15, _), (14, _), (16, _), (12, _), (11, _), (10, _), (9, _), (2, _), (3, _)]) rfl
          -- region 11 (outright.go:324)
          refine wp_reg ([]) ([_, _] ++ rs) [(0, true), (1, true), (2, true)] mixed (by kernel_rfl) (hT) ?_; intro w hT
          refine rd hf rfl (yl_move rfl) rfl rfl ?_; intro a hf
          refine rd hf rfl (yl_add rfl rfl (by unfold inI64; omega)) rfl rfl ?_; intro a hf
          refine rw_ hf rfl (yl_assign rfl) rfl (l' := [(16, _), (48, _), (47, _), (15, _), (14, _), (12, _), (11, _), (10, _), (9, _), (2, _), (3, _)]) rfl ?_; intro a hf
          refine plan_nil ?_
          exact ⟨k + 1, _, (by have h := hf.sel [16, 14, 15, 12, 11, 10, 9, 2, 3] (l' := [(16, _), (14, _), (15, _), (12, _), (11, _), (10, _), (9, _), (2, _), (3, _)]) rfl; rw [hsw, hss]; exact h), ⟨rfl, by omega⟩, hT, by first | omega | (dsimp only; omega)⟩
      · -- else
        obtain rfl : k = (cidx xs.length 24 0 t1.b).length := by omega
        rw [List.take_length, hW1, hS1] at hf
        refine wpIn_exit ?_
        refine then_exit ?_
        refine then_exit ?_
        refine inBlock_hit ?_
        refine wpIn_seq ?_
        -- region 15 (outright.go:330)
        refine wp_reg ([]) ([_, _] ++ rs) [(0, true), (1, true)] mixed (by kernel_rfl) (hT) ?_; intro w hT
        refine rd hf rfl (yl_assign rfl) rfl rfl ?_; intro a hf
        refine rd hf rfl (yl_assign rfl) rfl rfl ?_; intro a hf
        refine plan_nil ?_
        replace hf := hf.sel [18, 17, 14, 15, 12, 10, 9, 2, 3] (l' := [(18, _), (17, _), (14, _), (15, _), (12, _), (10, _), (9, _), (2, _), (3, _)]) rfl
        refine wpIn_seq ?_
        refine wpIn_seq ?_
        -- region 16 (outright.go:331)
        refine wp_reg ([]) ([_, _] ++ rs) [(0, true)] mixed (by kernel_rfl) (hT) ?_; intro w hT
        refine rd hf rfl (yl_assign rfl) rfl rfl ?_; intro a hf
        refine plan_nil ?_
        refine wpIn_block ?_
        refine wp_loopS (σ := Nat) (fun i => [(19, .int .i64 (i : Nat)), (17, .int .i64 (isum (fw xs) ((List.range i).filter (fun j => decide (((b >>> j : Nat) : Int) % 2 = 1))))), (18, .int .i64 (isum (fs xs) ((List.range i).filter (fun j => decide (((b >>> j : Nat) : Int) % 2 = 1)))))]) [(14, _), (15, _), (12, _), (10, _), (9, _), (2, _), (3, _)] (fun i L => L = [] ∧ i ≤ xs.length) (fun i => xs.length - i) 0 (L := []) (R := [_, _] ++ rs) (hf.sel [19, 17, 18, 14, 15, 12, 10, 9, 2, 3] rfl) (⟨rfl, Nat.zero_le _⟩) hT ?_
        clear hf hT; rintro i a w L hf ⟨rfl, hi⟩ hT
        replace hf : Fr _ [(19, .int .i64 (i : Nat)), (17, .int .i64 (isum (fw xs) ((List.range i).filter (fun j => decide (((b >>> j : Nat) : Int) % 2 = 1))))), (18, .int .i64 (isum (fs xs) ((List.range i).filter (fun j => decide (((b >>> j : Nat) : Int) % 2 = 1))))), (14, _), (15, _), (12, _), (10, _), (9, _), (2, _), (3, _)] _ _ := hf
        refine wpIn_seq ?_
        refine wpIn_seq ?_
        -- region 17 (outright.go:331)
        refine wp_reg ([]) ([_, _] ++ rs) [(0, true), (1, true), (2, true), (3, true)] mixed (by kernel_rfl) (hT) ?_; intro w hT
        refine rd hf rfl (yl_move rfl) rfl rfl ?_; intro a hf
        refine rd hf rfl (yl_move rfl) rfl rfl ?_; intro a hf
        refine rd hf rfl (yl_lenE rfl Try.underlying81 (hXP.els (.tail _ (.head _)))) rfl rfl ?_; intro a hf
        refine rd hf rfl (yl_cmp rfl rfl rfl) rfl rfl ?_; intro a hf
        refine plan_nil ?_
        replace hf := hf.sel [102, 19, 17, 18, 14, 15, 12, 10, 9, 2, 3] (l' := [(102, _), (19, _), (17, _), (18, _), (14, _), (15, _), (12, _), (10, _), (9, _), (2, _), (3, _)]) rfl
        refine wp_ifd hf rfl (fun hlti => ?_) (fun hlti => ?_)
        · -- then
          have hltx : i < xs.length := by omega
          obtain ⟨x, hjx⟩ : ∃ x, xs[i]? = some x := ⟨xs[i], List.getElem?_eq_getElem hltx⟩
          obtain ⟨p1, p2, p3, p4⟩ := hok x (List.mem_of_getElem? hjx)
          have hrw := isum_rng (fw_rng hok) ((List.range i).filter (fun j => decide (((b >>> j : Nat) : Int) % 2 = 1)))
          have hrs := isum_rng (fs_rng hok) ((List.range i).filter (fun j => decide (((b >>> j : Nat) : Int) % 2 = 1)))
          have hfl := List.length_filter_le (fun j => decide (((b >>> j : Nat) : Int) % 2 = 1)) (List.range i)
          rw [List.length_range] at hfl
          refine wpIn_skip ?_
          refine wpIn_seq ?_
          refine wpIn_block ?_
          refine wpIn_seq ?_
          -- region 19 (outright.go:332)
          refine wp_reg ([]) ([_, _] ++ rs) [(0, true), (1, true), (2, true), (3, true), (4, true)] mixed (by kernel_rfl) (hT) ?_; intro w hT
          refine rd hf rfl (yl_move rfl) rfl rfl ?_; intro a hf
          refine rd hf rfl (yl_move rfl) rfl rfl ?_; intro a hf
          refine rd hf rfl (yl_shr i rfl rfl b rfl rfl (by omega)) rfl rfl ?_; intro a hf
          refine rd hf rfl (yl_remk rfl rfl (Int.natCast_nonneg _) (by decide)) rfl rfl ?_; intro a hf
          refine rd hf rfl (yl_cmp rfl rfl rfl) rfl rfl ?_; intro a hf
          refine plan_nil ?_
          replace hf := hf.sel [109, 19, 17, 18, 14, 15, 12, 10, 9, 2, 3] (l' := [(109, _), (19, _), (17, _), (18, _), (14, _), (15, _), (12, _), (10, _), (9, _), (2, _), (3, _)]) rfl
          refine wp_ifd hf rfl (fun hbit => ?_) (fun hbit => ?_)
          · -- then
            -- region 20 (outright.go:333)
            refine wp_reg ([]) ([_, _] ++ rs) [(0, true), (1, true), (2, true), (3, true), (4, true), (5, true), (6, true), (7, true), (8, true), (9, true), (10, true), (11, true), (12, true), (13, true), (14, true), (15, true)] mixed (by kernel_rfl) (hT) ?_; intro w hT
            refine rd hf rfl (yl_move rfl) rfl rfl ?_; intro a hf
            refine rd hf rfl (yl_move rfl) rfl rfl ?_; intro a hf
            refine rd hf rfl (yl_move rfl) rfl rfl ?_; intro a hf
            refine rd hf rfl (yl_indexE rfl rfl Try.underlying81 sz_90 (hXP.els (.tail _ (.head _))) (by omega) (by omega)) rfl rfl ?_; intro a hf
            refine rd hf rfl (yl_faddr Try.underlying90 rfl rfl sz_2 rfl) rfl rfl ?_; intro a hf
            refine rd hf rfl (yl_load Try.underlying2 rfl rfl ((hXP.els (.tail _ (.head _))).cell hjx (f := 1) rfl)) rfl rfl ?_; intro a hf
            refine rd hf rfl (yl_add rfl rfl (by unfold inI64; omega)) rfl rfl ?_; intro a hf
            refine rd hf rfl (yl_move rfl) rfl rfl ?_; intro a hf
            refine rd hf rfl (yl_move rfl) rfl rfl ?_; intro a hf
            refine rd hf rfl (yl_move rfl) rfl rfl ?_; intro a hf
            refine rd hf rfl (yl_indexE rfl rfl Try.underlying81 sz_90 (hXP.els (.tail _ (.head _))) (by omega) (by omega)) rfl rfl ?_; intro a hf
            refine rd hf rfl (yl_faddr Try.underlying90 rfl rfl sz_2 rfl) rfl rfl ?_; intro a hf
            refine rd hf rfl (yl_load Try.underlying2 rfl rfl ((hXP.els (.tail _ (.head _))).cell hjx (f := 0) rfl)) rfl rfl ?_; intro a hf
            refine rd hf rfl (yl_add rfl rfl (by unfold inI64; omega)) rfl rfl ?_; intro a hf
            refine rw_ hf rfl (yl_assign rfl) rfl (l' := [(17, _), (123, _), (122, _), (121, _), (120, _), (119, _), (118, _), (117, _), (116, _), (115, _), (114, _), (113, _), (112, _), (111, _), (110, _), (109, _), (19, _), (18, _), (14, _), (15, _), (12, _), (10, _), (9, _), (2, _), (3, _)]) rfl ?_; intro a hf
            refine rw_ hf rfl (yl_assign rfl) rfl (l' := [(18, _), (17, _), (123, _), (122, _), (121, _), (120, _), (119, _), (118, _), (117, _), (116, _), (115, _), (114, _), (113, _), (112, _), (111, _), (110, _), (109, _), (19, _), (14, _), (15, _), (12, _), (10, _), (9, _), (2, _), (3, _)]) rfl ?_; intro a hf
            refine plan_nil ?_
            replace hf := hf.sel [18, 17, 19, 14, 15, 12, 10, 9, 2, 3] (l' := [(18, _), (17, _), (19, _), (14, _), (15, _), (12, _), (10, _), (9, _), (2, _), (3, _)]) rfl
            -- region 18 (outright.go:331)
            refine wp_reg ([]) ([_, _] ++ rs) [(0, true), (1, true), (2, true)] mixed (by kernel_rfl) (hT) ?_; intro w hT
            refine rd hf rfl (yl_move rfl) rfl rfl ?_; intro a hf
            refine rd hf rfl (yl_add rfl rfl (by unfold inI64; omega)) rfl rfl ?_; intro a hf
            refine rw_ hf rfl (yl_assign rfl) rfl (l' := [(19, _), (104, _), (103, _), (18, _), (17, _), (14, _), (15, _), (12, _), (10, _), (9, _), (2, _), (3, _)]) rfl ?_; intro a hf
            refine plan_nil ?_
            exact ⟨i + 1, _, (by have h := hf.sel [19, 17, 18, 14, 15, 12, 10, 9, 2, 3] (l' := [(19, _), (17, _), (18, _), (14, _), (15, _), (12, _), (10, _), (9, _), (2, _), (3, _)]) rfl; rw [List.range_succ, List.filter_append, List.filter_cons_of_pos (by simpa using hbit), List.filter_nil, isum_snoc, isum_snoc, fw_at hjx, fs_at hjx]; exact h), ⟨rfl, by omega⟩, hT, by first | omega | (dsimp only; omega)⟩
          · -- else
            refine wpIn_skip ?_
            -- region 18 (outright.go:331)
            refine wp_reg ([]) ([_, _] ++ rs) [(0, true), (1, true), (2, true)] mixed (by kernel_rfl) (hT) ?_; intro w hT
            refine rd hf rfl (yl_move rfl) rfl rfl ?_; intro a hf
            refine rd hf rfl (yl_add rfl rfl (by unfold inI64; omega)) rfl rfl ?_; intro a hf
            refine rw_ hf rfl (yl_assign rfl) rfl (l' := [(19, _), (104, _), (103, _), (109, _), (17, _), (18, _), (14, _), (15, _), (12, _), (10, _), (9, _), (2, _), (3, _)]) rfl ?_; intro a hf
            refine plan_nil ?_
            replace hf := hf.sel [19, 17, 18, 14, 15, 12, 10, 9, 2, 3] (l' := [(19, _), (17, _), (18, _), (14, _), (15, _), (12, _), (10, _), (9, _), (2, _), (3, _)]) rfl
            exact ⟨i + 1, _, (by have h := hf.sel [19, 17, 18, 14, 15, 12, 10, 9, 2, 3] (l' := [(19, _), (17, _), (18, _), (14, _), (15, _), (12, _), (10, _), (9, _), (2, _), (3, _)]) rfl; rw [List.range_succ, List.filter_append, List.filter_cons_of_neg (by simpa using hbit), List.filter_nil, List.append_nil]; exact h), ⟨rfl, by omega⟩, hT, by first | omega | (dsimp only; omega)⟩
        · -- else
          obtain rfl : i = xs.length := by omega
          obtain ⟨y, hy, hyw, hys⟩ := sel_all xs (fun j => decide (((b >>> j : Nat) : Int) % 2 = 1))
          rw [← hyw, ← hys] at hf
          refine wpIn_exit ?_
          refine then_exit ?_
          refine then_exit ?_
          refine inBlock_hit ?_
          refine wpIn_seq ?_
          refine wpIn_seq ?_
          -- region 21 (outright.go:336)
          refine wp_reg ([]) ([_, _] ++ rs) [(0, true), (1, true), (2, true), (3, true), (4, true), (5, true), (6, true), (7, true), (8, true), (9, true), (10, true), (11, true), (12, true), (13, true), (14, true), (15, true), (16, true), (17, true), (18, true), (19, true), (20, true), (21, true), (22, true), (23, true), (24, true), (25, true), (26, true), (27, true)] mixed (by kernel_rfl) (hT) ?_; intro w hT
          refine rd hf rfl (yl_move rfl) rfl rfl ?_; intro a hf
          refine rd hf rfl (yl_move rfl) rfl rfl ?_; intro a hf
          refine rd hf rfl (yl_cmp rfl rfl rfl) rfl rfl ?_; intro a hf
          refine rd hf rfl (yl_move rfl) rfl rfl ?_; intro a hf
          refine rdT hf rfl rfl rfl rfl (by first | exact (decide_eq_false (fun h => h rfl)) | simp [(decide_eq_false (fun h => h rfl))]) (yl_move rfl) rfl (l' := [(128, _), (127, _), (126, _), (125, _), (124, _), (102, _), (19, _), (17, _), (18, _), (14, _), (15, _), (12, _), (10, _), (9, _), (2, _), (3, _)]) rfl ?_; intro a hf
          refine rdT hf rfl rfl rfl rfl (by first | exact (decide_eq_false (fun h => h rfl)) | simp [(decide_eq_false (fun h => h rfl))]) (yl_move rfl) rfl (l' := [(129, _), (128, _), (127, _), (126, _), (125, _), (124, _), (102, _), (19, _), (17, _), (18, _), (14, _), (15, _), (12, _), (10, _), (9, _), (2, _), (3, _)]) rfl ?_; intro a hf
          refine rdT hf rfl rfl rfl rfl (by first | exact (decide_eq_false (fun h => h rfl)) | simp [(decide_eq_false (fun h => h rfl))]) (yl_cmp rfl rfl rfl) rfl (l' := [(130, _), (129, _), (128, _), (127, _), (126, _), (125, _), (124, _), (102, _), (19, _), (17, _), (18, _), (14, _), (15, _), (12, _), (10, _), (9, _), (2, _), (3, _)]) rfl ?_; intro a hf
          refine rd hf rfl (yl_pickFF rfl (decide_eq_false (fun h => h rfl)) rfl) rfl rfl ?_; intro a hf
          refine rd hf rfl (yl_move rfl) rfl rfl ?_; intro a hf
          refine rdT hf rfl rfl rfl rfl (by first | exact (decide_eq_false (by omega)) | simp [(decide_eq_false (by omega))]) (yl_move rfl) rfl (l' := [(133, _), (132, _), (131, _), (130, _), (129, _), (128, _), (127, _), (126, _), (125, _), (124, _), (102, _), (19, _), (17, _), (18, _), (14, _), (15, _), (12, _), (10, _), (9, _), (2, _), (3, _)]) rfl ?_; intro a hf
          refine rdT hf rfl rfl rfl rfl (by first | exact (decide_eq_false (by omega)) | simp [(decide_eq_false (by omega))]) (yl_move rfl) rfl (l' := [(134, _), (133, _), (132, _), (131, _), (130, _), (129, _), (128, _), (127, _), (126, _), (125, _), (124, _), (102, _), (19, _), (17, _), (18, _), (14, _), (15, _), (12, _), (10, _), (9, _), (2, _), (3, _)]) rfl ?_; intro a hf
          refine rdT hf rfl rfl rfl rfl (by first | exact (decide_eq_false (by omega)) | simp [(decide_eq_false (by omega))]) (yl_cmp rfl rfl rfl) rfl (l' := [(135, _), (134, _), (133, _), (132, _), (131, _), (130, _), (129, _), (128, _), (127, _), (126, _), (125, _), (124, _), (102, _), (19, _), (17, _), (18, _), (14, _), (15, _), (12, _), (10, _), (9, _), (2, _), (3, _)]) rfl ?_; intro a hf
          refine rdT hf rfl rfl rfl rfl (by first | exact (decide_eq_false (by omega)) | simp [(decide_eq_false (by omega))]) (yl_move rfl) rfl (l' := [(136, _), (135, _), (134, _), (133, _), (132, _), (131, _), (130, _), (129, _), (128, _), (127, _), (126, _), (125, _), (124, _), (102, _), (19, _), (17, _), (18, _), (14, _), (15, _), (12, _), (10, _), (9, _), (2, _), (3, _)]) rfl ?_; intro a hf
          by_cases hg12 : y.s ≤ m
          · have hgT2 : decide (y.s ≤ m) = true := by simpa using hg12
            have hopt := htop1.max y ⟨hy, hg12⟩
            unfold gt at hopt
            refine rdT hf rfl rfl rfl rfl (by first | exact hgT2 | simp [hgT2]) (yl_move rfl) rfl (l' := [(137, _), (136, _), (135, _), (134, _), (133, _), (132, _), (131, _), (130, _), (129, _), (128, _), (127, _), (126, _), (125, _), (124, _), (102, _), (19, _), (17, _), (18, _), (14, _), (15, _), (12, _), (10, _), (9, _), (2, _), (3, _)]) rfl ?_; intro a hf
            refine rdT hf rfl rfl rfl rfl (by first | exact hgT2 | simp [hgT2]) (yl_move rfl) rfl (l' := [(138, _), (137, _), (136, _), (135, _), (134, _), (133, _), (132, _), (131, _), (130, _), (129, _), (128, _), (127, _), (126, _), (125, _), (124, _), (102, _), (19, _), (17, _), (18, _), (14, _), (15, _), (12, _), (10, _), (9, _), (2, _), (3, _)]) rfl ?_; intro a hf
            refine rdT hf rfl rfl rfl rfl (by first | exact hgT2 | simp [hgT2]) (yl_cmp rfl rfl rfl) rfl (l' := [(139, _), (138, _), (137, _), (136, _), (135, _), (134, _), (133, _), (132, _), (131, _), (130, _), (129, _), (128, _), (127, _), (126, _), (125, _), (124, _), (102, _), (19, _), (17, _), (18, _), (14, _), (15, _), (12, _), (10, _), (9, _), (2, _), (3, _)]) rfl ?_; intro a hf
            refine rdT hf rfl rfl rfl rfl (by first | exact hgT2 | simp [hgT2]) (yl_move rfl) rfl (l' := [(140, _), (139, _), (138, _), (137, _), (136, _), (135, _), (134, _), (133, _), (132, _), (131, _), (130, _), (129, _), (128, _), (127, _), (126, _), (125, _), (124, _), (102, _), (19, _), (17, _), (18, _), (14, _), (15, _), (12, _), (10, _), (9, _), (2, _), (3, _)]) rfl ?_; intro a hf
            refine rdT hf rfl rfl rfl rfl (by first | exact (decide_eq_false (by omega)) | simp [(decide_eq_false (by omega))]) (yl_move rfl) rfl (l' := [(141, _), (140, _), (139, _), (138, _), (137, _), (136, _), (135, _), (134, _), (133, _), (132, _), (131, _), (130, _), (129, _), (128, _), (127, _), (126, _), (125, _), (124, _), (102, _), (19, _), (17, _), (18, _), (14, _), (15, _), (12, _), (10, _), (9, _), (2, _), (3, _)]) rfl ?_; intro a hf
            refine rdT hf rfl rfl rfl rfl (by first | exact (decide_eq_false (by omega)) | simp [(decide_eq_false (by omega))]) (yl_move rfl) rfl (l' := [(142, _), (141, _), (140, _), (139, _), (138, _), (137, _), (136, _), (135, _), (134, _), (133, _), (132, _), (131, _), (130, _), (129, _), (128, _), (127, _), (126, _), (125, _), (124, _), (102, _), (19, _), (17, _), (18, _), (14, _), (15, _), (12, _), (10, _), (9, _), (2, _), (3, _)]) rfl ?_; intro a hf
            refine rdT hf rfl rfl rfl rfl (by first | exact (decide_eq_false (by omega)) | simp [(decide_eq_false (by omega))]) (yl_cmp rfl rfl rfl) rfl (l' := [(143, _), (142, _), (141, _), (140, _), (139, _), (138, _), (137, _), (136, _), (135, _), (134, _), (133, _), (132, _), (131, _), (130, _), (129, _), (128, _), (127, _), (126, _), (125, _), (124, _), (102, _), (19, _), (17, _), (18, _), (14, _), (15, _), (12, _), (10, _), (9, _), (2, _), (3, _)]) rfl ?_; intro a hf
            refine rdT hf rfl rfl rfl rfl (by first | exact (decide_eq_false (by omega)) | simp [(decide_eq_false (by omega))]) (yl_move rfl) rfl (l' := [(144, _), (143, _), (142, _), (141, _), (140, _), (139, _), (138, _), (137, _), (136, _), (135, _), (134, _), (133, _), (132, _), (131, _), (130, _), (129, _), (128, _), (127, _), (126, _), (125, _), (124, _), (102, _), (19, _), (17, _), (18, _), (14, _), (15, _), (12, _), (10, _), (9, _), (2, _), (3, _)]) rfl ?_; intro a hf
            by_cases hg20 : y.w = t1.w
            · have hgT3 : decide (y.w = t1.w) = true := by simpa using hg20
              refine rdT hf rfl rfl rfl rfl (by first | exact hgT3 | simp [hgT3]) (yl_move rfl) rfl (l' := [(145, _), (144, _), (143, _), (142, _), (141, _), (140, _), (139, _), (138, _), (137, _), (136, _), (135, _), (134, _), (133, _), (132, _), (131, _), (130, _), (129, _), (128, _), (127, _), (126, _), (125, _), (124, _), (102, _), (19, _), (17, _), (18, _), (14, _), (15, _), (12, _), (10, _), (9, _), (2, _), (3, _)]) rfl ?_; intro a hf
              refine rdT hf rfl rfl rfl rfl (by first | exact hgT3 | simp [hgT3]) (yl_move rfl) rfl (l' := [(146, _), (145, _), (144, _), (143, _), (142, _), (141, _), (140, _), (139, _), (138, _), (137, _), (136, _), (135, _), (134, _), (133, _), (132, _), (131, _), (130, _), (129, _), (128, _), (127, _), (126, _), (125, _), (124, _), (102, _), (19, _), (17, _), (18, _), (14, _), (15, _), (12, _), (10, _), (9, _), (2, _), (3, _)]) rfl ?_; intro a hf
              refine rdT hf rfl rfl rfl rfl (by first | exact hgT3 | simp [hgT3]) (yl_cmp rfl rfl rfl) rfl (l' := [(147, _), (146, _), (145, _), (144, _), (143, _), (142, _), (141, _), (140, _), (139, _), (138, _), (137, _), (136, _), (135, _), (134, _), (133, _), (132, _), (131, _), (130, _), (129, _), (128, _), (127, _), (126, _), (125, _), (124, _), (102, _), (19, _), (17, _), (18, _), (14, _), (15, _), (12, _), (10, _), (9, _), (2, _), (3, _)]) rfl ?_; intro a hf
              refine rdT hf rfl rfl rfl rfl (by first | exact (decide_eq_false (by omega)) | simp [(decide_eq_false (by omega))]) (yl_pickTT rfl hgT3 rfl) rfl (l' := [(148, _), (147, _), (146, _), (145, _), (144, _), (143, _), (142, _), (141, _), (140, _), (139, _), (138, _), (137, _), (136, _), (135, _), (134, _), (133, _), (132, _), (131, _), (130, _), (129, _), (128, _), (127, _), (126, _), (125, _), (124, _), (102, _), (19, _), (17, _), (18, _), (14, _), (15, _), (12, _), (10, _), (9, _), (2, _), (3, _)]) rfl ?_; intro a hf
              refine rdT hf rfl rfl rfl rfl (by first | exact hgT2 | simp [hgT2]) (yl_pickFF rfl (decide_eq_false (by omega)) rfl) rfl (l' := [(149, _), (148, _), (147, _), (146, _), (145, _), (144, _), (143, _), (142, _), (141, _), (140, _), (139, _), (138, _), (137, _), (136, _), (135, _), (134, _), (133, _), (132, _), (131, _), (130, _), (129, _), (128, _), (127, _), (126, _), (125, _), (124, _), (102, _), (19, _), (17, _), (18, _), (14, _), (15, _), (12, _), (10, _), (9, _), (2, _), (3, _)]) rfl ?_; intro a hf
              refine rdT hf rfl rfl rfl rfl (by first | exact (decide_eq_false (by omega)) | simp [(decide_eq_false (by omega))]) (yl_pickTT rfl hgT2 rfl) rfl (l' := [(150, _), (149, _), (148, _), (147, _), (146, _), (145, _), (144, _), (143, _), (142, _), (141, _), (140, _), (139, _), (138, _), (137, _), (136, _), (135, _), (134, _), (133, _), (132, _), (131, _), (130, _), (129, _), (128, _), (127, _), (126, _), (125, _), (124, _), (102, _), (19, _), (17, _), (18, _), (14, _), (15, _), (12, _), (10, _), (9, _), (2, _), (3, _)]) rfl ?_; intro a hf
              refine rd hf rfl (yl_pickFF rfl (decide_eq_false (by omega)) rfl) rfl rfl ?_; intro a hf
              refine plan_nil ?_
              replace hf := hf.sel [151, 12, 10, 9, 3] (l' := [(151, _), (12, _), (10, _), (9, _), (3, _)]) rfl
              refine wp_ifd hf rfl (fun hbadc => ?_) (fun hbadc => ?_)
              · -- then
                exact absurd hbadc (by omega)
              · -- else
                refine wpIn_skip ?_
                refine wpIn_seq ?_
                -- region 23 (outright.go:339)
                refine wp_reg ([]) ([_, _] ++ rs) [(0, true), (1, true), (2, true), (3, true), (4, true), (5, false), (6, true), (7, true), (8, true), (9, true), (10, true), (11, true), (12, true)] mixed (by kernel_rfl) (hT) ?_; intro w hT
                refine rd hf rfl (yl_move rfl) rfl rfl ?_; intro a hf
                refine rd hf rfl (yl_move rfl) rfl rfl ?_; intro a hf
                refine rd hf rfl (yl_move rfl) rfl rfl ?_; intro a hf
                refine rd hf rfl (yl_conv64 rfl Try.underlying22 Try.underlying2 (by unfold inI64; omega)) rfl rfl ?_; intro a hf
                refine rd hf rfl (yl_add rfl rfl (by unfold inI64; omega)) rfl rfl ?_; intro a hf
                refine ef_call hf rfl (wanted_none _ _ rfl) rfl rfl (by kernel_rfl) (Spec.frame (L2 := []) (Best_specN xs A0 xs.length cp (hXP.els (.tail _ (.head _))) hcap (m + z) hT)) rfl (l' := [(157, _), (156, _), (155, _), (154, _), (153, _), (151, _), (12, _), (10, _), (9, _), (3, _)]) rfl ?_; rintro a w v L ⟨L1, ⟨q2, o2, w2, e2, X2, rfl, hX2, rfl, hb2⟩, rfl⟩ hf hT
                obtain ⟨t2, rfl, rfl, rfl, htop2⟩ := hb2.ok hn24 hok (by omega)
                refine rd hf rfl (yl_move rfl) rfl rfl ?_; intro a hf
                refine rd hf rfl (yl_extract rfl rfl) rfl rfl ?_; intro a hf
                refine rd hf rfl (yl_extract rfl rfl) rfl rfl ?_; intro a hf
                refine rd hf rfl (yl_extract rfl rfl) rfl rfl ?_; intro a hf
                refine rd hf rfl (yl_assign rfl) rfl rfl ?_; intro a hf
                refine rd hf rfl (yl_assign rfl) rfl rfl ?_; intro a hf
                refine rd hf rfl (yl_assign rfl) rfl rfl ?_; intro a hf
                refine plan_nil ?_
                have hmon : t1.w ≤ t2.w := by have h1 := htop2.max t1 ⟨htop1.mem.1, by omega⟩; unfold gt at h1; omega
                replace hf := hf.sel [13, 21, 12, 10, 9] (l' := [(13, _), (21, _), (12, _), (10, _), (9, _)]) rfl
                refine wpIn_seq ?_
                refine wpIn_seq ?_
                -- region 24 (outright.go:340)
                refine wp_reg ([]) ([_, _, _] ++ rs) [(0, true), (1, true), (2, true), (3, true), (4, true), (5, true), (6, true)] mixed (by kernel_rfl) (hT) ?_; intro w hT
                refine rd hf rfl (yl_move rfl) rfl rfl ?_; intro a hf
                refine rd hf rfl (yl_cmp rfl rfl rfl) rfl rfl ?_; intro a hf
                refine rd hf rfl (yl_move rfl) rfl rfl ?_; intro a hf
                refine rdT hf rfl rfl rfl rfl (by first | exact (decide_eq_false (fun h => h rfl)) | simp [(decide_eq_false (fun h => h rfl))]) (yl_move rfl) rfl (l' := [(165, _), (164, _), (163, _), (162, _), (13, _), (21, _), (12, _), (10, _), (9, _)]) rfl ?_; intro a hf
                refine rdT hf rfl rfl rfl rfl (by first | exact (decide_eq_false (fun h => h rfl)) | simp [(decide_eq_false (fun h => h rfl))]) (yl_move rfl) rfl (l' := [(166, _), (165, _), (164, _), (163, _), (162, _), (13, _), (21, _), (12, _), (10, _), (9, _)]) rfl ?_; intro a hf
                refine rdT hf rfl rfl rfl rfl (by first | exact (decide_eq_false (fun h => h rfl)) | simp [(decide_eq_false (fun h => h rfl))]) (yl_cmp rfl rfl rfl) rfl (l' := [(167, _), (166, _), (165, _), (164, _), (163, _), (162, _), (13, _), (21, _), (12, _), (10, _), (9, _)]) rfl ?_; intro a hf
                refine rd hf rfl (yl_pickFF rfl (decide_eq_false (fun h => h rfl)) rfl) rfl rfl ?_; intro a hf
                refine plan_nil ?_
                replace hf := hf.sel [168, 12, 10, 9] (l' := [(168, _), (12, _), (10, _), (9, _)]) rfl
                refine wp_ifd hf rfl (fun hmo => ?_) (fun hmo => ?_)
                · -- then
                  exact absurd hmo (by omega)
                · -- else
                  refine wpIn_skip ?_
                  refine wpIn_seq ?_
                  refine wpIn_seq ?_
                  -- region 26 (outright.go:343)
                  refine wp_reg ([]) ([_, _, _] ++ rs) [(0, true), (1, true), (2, true)] mixed (by kernel_rfl) (hT) ?_; intro w hT
                  refine rd hf rfl (yl_move rfl) rfl rfl ?_; intro a hf
                  refine rd hf rfl (yl_lenE rfl Try.underlying81 (hXP.els (.tail _ (.tail _ (.head _))))) rfl rfl ?_; intro a hf
                  refine rd hf rfl (yl_cmp rfl rfl rfl) rfl rfl ?_; intro a hf
                  refine plan_nil ?_
                  replace hf := hf.sel [171, 12, 10, 9] (l' := [(171, _), (12, _), (10, _), (9, _)]) rfl
                  refine wp_ifd hf rfl (fun hpos => ?_) (fun hpos => ?_)
                  · -- then
                    refine wpIn_seq ?_
                    -- region 27 (outright.go:344)
                    refine wp_reg ([]) ([_, _, _] ++ rs) [(0, true), (1, true), (2, true), (3, false), (4, true), (5, true), (6, true), (7, true), (8, true), (9, true), (10, true)] mixed (by kernel_rfl) (hT) ?_; intro w hT
                    refine rd hf rfl (yl_move rfl) rfl rfl ?_; intro a hf
                    refine rd hf rfl (yl_slice (L := 1) (H := xs.length) (A := A0) (c := cp) rfl Try.underlying81 sz_90 rfl rfl (by omega) (by omega)) rfl rfl ?_; intro a hf
                    refine rd hf rfl (yl_move rfl) rfl rfl ?_; intro a hf
                    refine ef_call hf rfl (wanted_none _ _ rfl) rfl rfl (by kernel_rfl) (Spec.frame (L2 := []) (Best_specN (xs.drop 1) _ (xs.length - 1) (cp - 1) (hXP.dropE (.tail _ (.tail _ (.head _))) (by omega)) (by omega) m hT)) rfl (l' := [(175, _), (174, _), (173, _), (171, _), (12, _), (10, _), (9, _)]) rfl ?_; rintro a w v L ⟨L1, ⟨q3, o3, w3, e3, X3, rfl, hX3, rfl, hb3⟩, rfl⟩ hf hT
                    obtain ⟨t3, rfl, rfl, rfl, htop3⟩ := hb3.ok (by rw [List.length_drop]; omega) (fun x hx => hok x (List.mem_of_mem_drop hx)) (by omega)
                    have hdr := top_drop htop1 htop3 (by omega)
                    refine rd hf rfl (yl_move rfl) rfl rfl ?_; intro a hf
                    refine rd hf rfl (yl_extract rfl rfl) rfl rfl ?_; intro a hf
                    refine rd hf rfl (yl_extract rfl rfl) rfl rfl ?_; intro a hf
                    refine rd hf rfl (yl_extract rfl rfl) rfl rfl ?_; intro a hf
                    refine rd hf rfl (yl_assign rfl) rfl rfl ?_; intro a hf
                    refine rd hf rfl (yl_assign rfl) rfl rfl ?_; intro a hf
                    refine rd hf rfl (yl_assign rfl) rfl rfl ?_; intro a hf
                    refine plan_nil ?_
                    replace hf := hf.sel [24, 23, 12] (l' := [(24, _), (23, _), (12, _)]) rfl
                    refine wpIn_seq ?_
                    -- region 28 (outright.go:345)
                    refine wp_reg ([]) ([_, _, _, _] ++ rs) [(0, true), (1, true), (2, true), (3, true), (4, true), (5, true), (6, true)] mixed (by kernel_rfl) (hT) ?_; intro w hT
                    refine rd hf rfl (yl_move rfl) rfl rfl ?_; intro a hf
                    refine rd hf rfl (yl_cmp rfl rfl rfl) rfl rfl ?_; intro a hf
                    refine rd hf rfl (yl_move rfl) rfl rfl ?_; intro a hf
                    refine rdT hf rfl rfl rfl rfl (by first | exact (decide_eq_false (fun h => h rfl)) | simp [(decide_eq_false (fun h => h rfl))]) (yl_move rfl) rfl (l' := [(183, _), (182, _), (181, _), (180, _), (24, _), (23, _), (12, _)]) rfl ?_; intro a hf
                    refine rdT hf rfl rfl rfl rfl (by first | exact (decide_eq_false (fun h => h rfl)) | simp [(decide_eq_false (fun h => h rfl))]) (yl_move rfl) rfl (l' := [(184, _), (183, _), (182, _), (181, _), (180, _), (24, _), (23, _), (12, _)]) rfl ?_; intro a hf
                    refine rdT hf rfl rfl rfl rfl (by first | exact (decide_eq_false (fun h => h rfl)) | simp [(decide_eq_false (fun h => h rfl))]) (yl_cmp rfl rfl rfl) rfl (l' := [(185, _), (184, _), (183, _), (182, _), (181, _), (180, _), (24, _), (23, _), (12, _)]) rfl ?_; intro a hf
                    refine rd hf rfl (yl_pickFF rfl (decide_eq_false (fun h => h rfl)) rfl) rfl rfl ?_; intro a hf
                    refine plan_nil ?_
                    replace hf := hf.sel [186] (l' := [(186, _)]) rfl
                    refine wp_ifd hf rfl (fun hdd => ?_) (fun hdd => ?_)
                    · -- then
                      exact absurd hdd (by omega)
                    · -- else
                      refine wpIn_skip ?_
                      refine wpIn_seq ?_
                      -- region 30 (outright.go:349)
                      refine wp_reg ([]) ([_, _, _, _] ++ rs) [(0, false), (1, true)] mixed (by kernel_rfl) (hT) ?_; intro w hT
                      refine ef_call hf rfl (wanted_none _ _ rfl) rfl rfl (by kernel_rfl) (Spec.frame (L2 := []) (fine_spec hT)) rfl (l' := [(186, _)]) rfl ?_; rintro a w v L ⟨L1, ⟨rfl, rfl⟩, rfl⟩ hf hT
                      refine rd hf rfl (yl_assign rfl) rfl rfl ?_; intro a hf
                      refine plan_nil ?_
                      refine wpIn_ret ?_
                      exact body_ret hf (L := []) hT.tail.tail.tail.tail rfl rfl ⟨rfl, rfl⟩
                  · -- else
                    refine wpIn_skip ?_
                    refine wpIn_seq ?_
                    -- region 30 (outright.go:349)
                    refine wp_reg ([]) ([_, _, _] ++ rs) [(0, false), (1, true)] mixed (by kernel_rfl) (hT) ?_; intro w hT
                    refine ef_call hf rfl (wanted_none _ _ rfl) rfl rfl (by kernel_rfl) (Spec.frame (L2 := []) (fine_spec hT)) rfl (l' := [(171, _), (12, _), (10, _), (9, _)]) rfl ?_; rintro a w v L ⟨L1, ⟨rfl, rfl⟩, rfl⟩ hf hT
                    refine rd hf rfl (yl_assign rfl) rfl rfl ?_; intro a hf
                    refine plan_nil ?_
                    replace hf := hf.sel [8] (l' := [(8, _)]) rfl
                    refine wpIn_ret ?_
                    exact body_ret hf (L := []) hT.tail.tail.tail rfl rfl ⟨rfl, rfl⟩
            · have hgT3 : decide (y.w = t1.w) = false := by simpa using hg20
              refine rdF hf rfl rfl rfl rfl (by first | exact hgT3 | simp [hgT3]) rfl (l' := [(145, _), (144, _), (143, _), (142, _), (141, _), (140, _), (139, _), (138, _), (137, _), (136, _), (135, _), (134, _), (133, _), (132, _), (131, _), (130, _), (129, _), (128, _), (127, _), (126, _), (125, _), (124, _), (102, _), (19, _), (17, _), (18, _), (14, _), (15, _), (12, _), (10, _), (9, _), (2, _), (3, _)]) rfl ?_; intro a hf
              refine rdF hf rfl rfl rfl rfl (by first | exact hgT3 | simp [hgT3]) rfl (l' := [(146, _), (145, _), (144, _), (143, _), (142, _), (141, _), (140, _), (139, _), (138, _), (137, _), (136, _), (135, _), (134, _), (133, _), (132, _), (131, _), (130, _), (129, _), (128, _), (127, _), (126, _), (125, _), (124, _), (102, _), (19, _), (17, _), (18, _), (14, _), (15, _), (12, _), (10, _), (9, _), (2, _), (3, _)]) rfl ?_; intro a hf
              refine rdF hf rfl rfl rfl rfl (by first | exact hgT3 | simp [hgT3]) rfl (l' := [(147, _), (146, _), (145, _), (144, _), (143, _), (142, _), (141, _), (140, _), (139, _), (138, _), (137, _), (136, _), (135, _), (134, _), (133, _), (132, _), (131, _), (130, _), (129, _), (128, _), (127, _), (126, _), (125, _), (124, _), (102, _), (19, _), (17, _), (18, _), (14, _), (15, _), (12, _), (10, _), (9, _), (2, _), (3, _)]) rfl ?_; intro a hf
              refine rdT hf rfl rfl rfl rfl (by first | exact (decide_eq_false (by omega)) | simp [(decide_eq_false (by omega))]) (yl_pickFF rfl hgT3 rfl) rfl (l' := [(148, _), (147, _), (146, _), (145, _), (144, _), (143, _), (142, _), (141, _), (140, _), (139, _), (138, _), (137, _), (136, _), (135, _), (134, _), (133, _), (132, _), (131, _), (130, _), (129, _), (128, _), (127, _), (126, _), (125, _), (124, _), (102, _), (19, _), (17, _), (18, _), (14, _), (15, _), (12, _), (10, _), (9, _), (2, _), (3, _)]) rfl ?_; intro a hf
              refine rdT hf rfl rfl rfl rfl (by first | exact hgT2 | simp [hgT2]) (yl_pickFF rfl (decide_eq_false (by omega)) rfl) rfl (l' := [(149, _), (148, _), (147, _), (146, _), (145, _), (144, _), (143, _), (142, _), (141, _), (140, _), (139, _), (138, _), (137, _), (136, _), (135, _), (134, _), (133, _), (132, _), (131, _), (130, _), (129, _), (128, _), (127, _), (126, _), (125, _), (124, _), (102, _), (19, _), (17, _), (18, _), (14, _), (15, _), (12, _), (10, _), (9, _), (2, _), (3, _)]) rfl ?_; intro a hf
              refine rdT hf rfl rfl rfl rfl (by first | exact (decide_eq_false (by omega)) | simp [(decide_eq_false (by omega))]) (yl_pickTT rfl hgT2 rfl) rfl (l' := [(150, _), (149, _), (148, _), (147, _), (146, _), (145, _), (144, _), (143, _), (142, _), (141, _), (140, _), (139, _), (138, _), (137, _), (136, _), (135, _), (134, _), (133, _), (132, _), (131, _), (130, _), (129, _), (128, _), (127, _), (126, _), (125, _), (124, _), (102, _), (19, _), (17, _), (18, _), (14, _), (15, _), (12, _), (10, _), (9, _), (2, _), (3, _)]) rfl ?_; intro a hf
              refine rd hf rfl (yl_pickFF rfl (decide_eq_false (by omega)) rfl) rfl rfl ?_; intro a hf
              refine plan_nil ?_
              replace hf := hf.sel [151, 12, 10, 9, 3] (l' := [(151, _), (12, _), (10, _), (9, _), (3, _)]) rfl
              refine wp_ifFF hf rfl (rfl) ?_
              refine wpIn_skip ?_
              refine wpIn_seq ?_
              -- region 23 (outright.go:339)
              refine wp_reg ([]) ([_, _] ++ rs) [(0, true), (1, true), (2, true), (3, true), (4, true), (5, false), (6, true), (7, true), (8, true), (9, true), (10, true), (11, true), (12, true)] mixed (by kernel_rfl) (hT) ?_; intro w hT
              refine rd hf rfl (yl_move rfl) rfl rfl ?_; intro a hf
              refine rd hf rfl (yl_move rfl) rfl rfl ?_; intro a hf
              refine rd hf rfl (yl_move rfl) rfl rfl ?_; intro a hf
              refine rd hf rfl (yl_conv64 rfl Try.underlying22 Try.underlying2 (by unfold inI64; omega)) rfl rfl ?_; intro a hf
              refine rd hf rfl (yl_add rfl rfl (by unfold inI64; omega)) rfl rfl ?_; intro a hf
              refine ef_call hf rfl (wanted_none _ _ rfl) rfl rfl (by kernel_rfl) (Spec.frame (L2 := []) (Best_specN xs A0 xs.length cp (hXP.els (.tail _ (.head _))) hcap (m + z) hT)) rfl (l' := [(157, _), (156, _), (155, _), (154, _), (153, _), (151, _), (12, _), (10, _), (9, _), (3, _)]) rfl ?_; rintro a w v L ⟨L1, ⟨q2, o2, w2, e2, X2, rfl, hX2, rfl, hb2⟩, rfl⟩ hf hT
              obtain ⟨t2, rfl, rfl, rfl, htop2⟩ := hb2.ok hn24 hok (by omega)
              refine rd hf rfl (yl_move rfl) rfl rfl ?_; intro a hf
              refine rd hf rfl (yl_extract rfl rfl) rfl rfl ?_; intro a hf
              refine rd hf rfl (yl_extract rfl rfl) rfl rfl ?_; intro a hf
              refine rd hf rfl (yl_extract rfl rfl) rfl rfl ?_; intro a hf
              refine rd hf rfl (yl_assign rfl) rfl rfl ?_; intro a hf
              refine rd hf rfl (yl_assign rfl) rfl rfl ?_; intro a hf
              refine rd hf rfl (yl_assign rfl) rfl rfl ?_; intro a hf
              refine plan_nil ?_
              have hmon : t1.w ≤ t2.w := by have h1 := htop2.max t1 ⟨htop1.mem.1, by omega⟩; unfold gt at h1; omega
              replace hf := hf.sel [13, 21, 12, 10, 9] (l' := [(13, _), (21, _), (12, _), (10, _), (9, _)]) rfl
              refine wpIn_seq ?_
              refine wpIn_seq ?_
              -- region 24 (outright.go:340)
              refine wp_reg ([]) ([_, _, _] ++ rs) [(0, true), (1, true), (2, true), (3, true), (4, true), (5, true), (6, true)] mixed (by kernel_rfl) (hT) ?_; intro w hT
              refine rd hf rfl (yl_move rfl) rfl rfl ?_; intro a hf
              refine rd hf rfl (yl_cmp rfl rfl rfl) rfl rfl ?_; intro a hf
              refine rd hf rfl (yl_move rfl) rfl rfl ?_; intro a hf
              refine rdT hf rfl rfl rfl rfl (by first | exact (decide_eq_false (fun h => h rfl)) | simp [(decide_eq_false (fun h => h rfl))]) (yl_move rfl) rfl (l' := [(165, _), (164, _), (163, _), (162, _), (13, _), (21, _), (12, _), (10, _), (9, _)]) rfl ?_; intro a hf
              refine rdT hf rfl rfl rfl rfl (by first | exact (decide_eq_false (fun h => h rfl)) | simp [(decide_eq_false (fun h => h rfl))]) (yl_move rfl) rfl (l' := [(166, _), (165, _), (164, _), (163, _), (162, _), (13, _), (21, _), (12, _), (10, _), (9, _)]) rfl ?_; intro a hf
              refine rdT hf rfl rfl rfl rfl (by first | exact (decide_eq_false (fun h => h rfl)) | simp [(decide_eq_false (fun h => h rfl))]) (yl_cmp rfl rfl rfl) rfl (l' := [(167, _), (166, _), (165, _), (164, _), (163, _), (162, _), (13, _), (21, _), (12, _), (10, _), (9, _)]) rfl ?_; intro a hf
              refine rd hf rfl (yl_pickFF rfl (decide_eq_false (fun h => h rfl)) rfl) rfl rfl ?_; intro a hf
              refine plan_nil ?_
              replace hf := hf.sel [168, 12, 10, 9] (l' := [(168, _), (12, _), (10, _), (9, _)]) rfl
              refine wp_ifd hf rfl (fun hmo => ?_) (fun hmo => ?_)
              · -- then
                exact absurd hmo (by omega)
              · -- else
                refine wpIn_skip ?_
                refine wpIn_seq ?_
                refine wpIn_seq ?_
                -- region 26 (outright.go:343)
                refine wp_reg ([]) ([_, _, _] ++ rs) [(0, true), (1, true), (2, true)] mixed (by kernel_rfl) (hT) ?_; intro w hT
                refine rd hf rfl (yl_move rfl) rfl rfl ?_; intro a hf
                refine rd hf rfl (yl_lenE rfl Try.underlying81 (hXP.els (.tail _ (.tail _ (.head _))))) rfl rfl ?_; intro a hf
                refine rd hf rfl (yl_cmp rfl rfl rfl) rfl rfl ?_; intro a hf
                refine plan_nil ?_
                replace hf := hf.sel [171, 12, 10, 9] (l' := [(171, _), (12, _), (10, _), (9, _)]) rfl
                refine wp_ifd hf rfl (fun hpos => ?_) (fun hpos => ?_)
                · -- then
                  refine wpIn_seq ?_
                  -- region 27 (outright.go:344)
                  refine wp_reg ([]) ([_, _, _] ++ rs) [(0, true), (1, true), (2, true), (3, false), (4, true), (5, true), (6, true), (7, true), (8, true), (9, true), (10, true)] mixed (by kernel_rfl) (hT) ?_; intro w hT
                  refine rd hf rfl (yl_move rfl) rfl rfl ?_; intro a hf
                  refine rd hf rfl (yl_slice (L := 1) (H := xs.length) (A := A0) (c := cp) rfl Try.underlying81 sz_90 rfl rfl (by omega) (by omega)) rfl rfl ?_; intro a hf
                  refine rd hf rfl (yl_move rfl) rfl rfl ?_; intro a hf
                  refine ef_call hf rfl (wanted_none _ _ rfl) rfl rfl (by kernel_rfl) (Spec.frame (L2 := []) (Best_specN (xs.drop 1) _ (xs.length - 1) (cp - 1) (hXP.dropE (.tail _ (.tail _ (.head _))) (by omega)) (by omega) m hT)) rfl (l' := [(175, _), (174, _), (173, _), (171, _), (12, _), (10, _), (9, _)]) rfl ?_; rintro a w v L ⟨L1, ⟨q3, o3, w3, e3, X3, rfl, hX3, rfl, hb3⟩, rfl⟩ hf hT
                  obtain ⟨t3, rfl, rfl, rfl, htop3⟩ := hb3.ok (by rw [List.length_drop]; omega) (fun x hx => hok x (List.mem_of_mem_drop hx)) (by omega)
                  have hdr := top_drop htop1 htop3 (by omega)
                  refine rd hf rfl (yl_move rfl) rfl rfl ?_; intro a hf
                  refine rd hf rfl (yl_extract rfl rfl) rfl rfl ?_; intro a hf
                  refine rd hf rfl (yl_extract rfl rfl) rfl rfl ?_; intro a hf
                  refine rd hf rfl (yl_extract rfl rfl) rfl rfl ?_; intro a hf
                  refine rd hf rfl (yl_assign rfl) rfl rfl ?_; intro a hf
                  refine rd hf rfl (yl_assign rfl) rfl rfl ?_; intro a hf
                  refine rd hf rfl (yl_assign rfl) rfl rfl ?_; intro a hf
                  refine plan_nil ?_
                  replace hf := hf.sel [24, 23, 12] (l' := [(24, _), (23, _), (12, _)]) rfl
                  refine wpIn_seq ?_
                  -- region 28 (outright.go:345)
                  refine wp_reg ([]) ([_, _, _, _] ++ rs) [(0, true), (1, true), (2, true), (3, true), (4, true), (5, true), (6, true)] mixed (by kernel_rfl) (hT) ?_; intro w hT
                  refine rd hf rfl (yl_move rfl) rfl rfl ?_; intro a hf
                  refine rd hf rfl (yl_cmp rfl rfl rfl) rfl rfl ?_; intro a hf
                  refine rd hf rfl (yl_move rfl) rfl rfl ?_; intro a hf
                  refine rdT hf rfl rfl rfl rfl (by first | exact (decide_eq_false (fun h => h rfl)) | simp [(decide_eq_false (fun h => h rfl))]) (yl_move rfl) rfl (l' := [(183, _), (182, _), (181, _), (180, _), (24, _), (23, _), (12, _)]) rfl ?_; intro a hf
                  refine rdT hf rfl rfl rfl rfl (by first | exact (decide_eq_false (fun h => h rfl)) | simp [(decide_eq_false (fun h => h rfl))]) (yl_move rfl) rfl (l' := [(184, _), (183, _), (182, _), (181, _), (180, _), (24, _), (23, _), (12, _)]) rfl ?_; intro a hf
                  refine rdT hf rfl rfl rfl rfl (by first | exact (decide_eq_false (fun h => h rfl)) | simp [(decide_eq_false (fun h => h rfl))]) (yl_cmp rfl rfl rfl) rfl (l' := [(185, _), (184, _), (183, _), (182, _), (181, _), (180, _), (24, _), (23, _), (12, _)]) rfl ?_; intro a hf
                  refine rd hf rfl (yl_pickFF rfl (decide_eq_false (fun h => h rfl)) rfl) rfl rfl ?_; intro a hf
                  refine plan_nil ?_
                  replace hf := hf.sel [186] (l' := [(186, _)]) rfl
                  refine wp_ifd hf rfl (fun hdd => ?_) (fun hdd => ?_)
                  · -- then
                    exact absurd hdd (by omega)
                  · -- else
                    refine wpIn_skip ?_
                    refine wpIn_seq ?_
                    -- region 30 (outright.go:349)
                    refine wp_reg ([]) ([_, _, _, _] ++ rs) [(0, false), (1, true)] mixed (by kernel_rfl) (hT) ?_; intro w hT
                    refine ef_call hf rfl (wanted_none _ _ rfl) rfl rfl (by kernel_rfl) (Spec.frame (L2 := []) (fine_spec hT)) rfl (l' := [(186, _)]) rfl ?_; rintro a w v L ⟨L1, ⟨rfl, rfl⟩, rfl⟩ hf hT
                    refine rd hf rfl (yl_assign rfl) rfl rfl ?_; intro a hf
                    refine plan_nil ?_
                    refine wpIn_ret ?_
                    exact body_ret hf (L := []) hT.tail.tail.tail.tail rfl rfl ⟨rfl, rfl⟩
                · -- else
                  refine wpIn_skip ?_
                  refine wpIn_seq ?_
                  -- region 30 (outright.go:349)
                  refine wp_reg ([]) ([_, _, _] ++ rs) [(0, false), (1, true)] mixed (by kernel_rfl) (hT) ?_; intro w hT
                  refine ef_call hf rfl (wanted_none _ _ rfl) rfl rfl (by kernel_rfl) (Spec.frame (L2 := []) (fine_spec hT)) rfl (l' := [(171, _), (12, _), (10, _), (9, _)]) rfl ?_; rintro a w v L ⟨L1, ⟨rfl, rfl⟩, rfl⟩ hf hT
                  refine rd hf rfl (yl_assign rfl) rfl rfl ?_; intro a hf
                  refine plan_nil ?_
                  replace hf := hf.sel [8] (l' := [(8, _)]) rfl
                  refine wpIn_ret ?_
                  exact body_ret hf (L := []) hT.tail.tail.tail rfl rfl ⟨rfl, rfl⟩
          · have hgT2 : decide (y.s ≤ m) = false := by simpa using hg12
            refine rdF hf rfl rfl rfl rfl (by first | exact hgT2 | simp [hgT2]) rfl (l' := [(137, _), (136, _), (135, _), (134, _), (133, _), (132, _), (131, _), (130, _), (129, _), (128, _), (127, _), (126, _), (125, _), (124, _), (102, _), (19, _), (17, _), (18, _), (14, _), (15, _), (12, _), (10, _), (9, _), (2, _), (3, _)]) rfl ?_; intro a hf
            refine rdF hf rfl rfl rfl rfl (by first | exact hgT2 | simp [hgT2]) rfl (l' := [(138, _), (137, _), (136, _), (135, _), (134, _), (133, _), (132, _), (131, _), (130, _), (129, _), (128, _), (127, _), (126, _), (125, _), (124, _), (102, _), (19, _), (17, _), (18, _), (14, _), (15, _), (12, _), (10, _), (9, _), (2, _), (3, _)]) rfl ?_; intro a hf
            refine rdF hf rfl rfl rfl rfl (by first | exact hgT2 | simp [hgT2]) rfl (l' := [(139, _), (138, _), (137, _), (136, _), (135, _), (134, _), (133, _), (132, _), (131, _), (130, _), (129, _), (128, _), (127, _), (126, _), (125, _), (124, _), (102, _), (19, _), (17, _), (18, _), (14, _), (15, _), (12, _), (10, _), (9, _), (2, _), (3, _)]) rfl ?_; intro a hf
            refine rdF hf rfl rfl rfl rfl (by first | exact hgT2 | simp [hgT2]) rfl (l' := [(140, _), (139, _), (138, _), (137, _), (136, _), (135, _), (134, _), (133, _), (132, _), (131, _), (130, _), (129, _), (128, _), (127, _), (126, _), (125, _), (124, _), (102, _), (19, _), (17, _), (18, _), (14, _), (15, _), (12, _), (10, _), (9, _), (2, _), (3, _)]) rfl ?_; intro a hf
            refine rdU hf rfl rfl rfl rfl rfl (l' := [(141, _), (140, _), (139, _), (138, _), (137, _), (136, _), (135, _), (134, _), (133, _), (132, _), (131, _), (130, _), (129, _), (128, _), (127, _), (126, _), (125, _), (124, _), (102, _), (19, _), (17, _), (18, _), (14, _), (15, _), (12, _), (10, _), (9, _), (2, _), (3, _)]) rfl ?_; intro a hf
            refine rdU hf rfl rfl rfl rfl rfl (l' := [(142, _), (141, _), (140, _), (139, _), (138, _), (137, _), (136, _), (135, _), (134, _), (133, _), (132, _), (131, _), (130, _), (129, _), (128, _), (127, _), (126, _), (125, _), (124, _), (102, _), (19, _), (17, _), (18, _), (14, _), (15, _), (12, _), (10, _), (9, _), (2, _), (3, _)]) rfl ?_; intro a hf
            refine rdU hf rfl rfl rfl rfl rfl (l' := [(143, _), (142, _), (141, _), (140, _), (139, _), (138, _), (137, _), (136, _), (135, _), (134, _), (133, _), (132, _), (131, _), (130, _), (129, _), (128, _), (127, _), (126, _), (125, _), (124, _), (102, _), (19, _), (17, _), (18, _), (14, _), (15, _), (12, _), (10, _), (9, _), (2, _), (3, _)]) rfl ?_; intro a hf
            refine rdU hf rfl rfl rfl rfl rfl (l' := [(144, _), (143, _), (142, _), (141, _), (140, _), (139, _), (138, _), (137, _), (136, _), (135, _), (134, _), (133, _), (132, _), (131, _), (130, _), (129, _), (128, _), (127, _), (126, _), (125, _), (124, _), (102, _), (19, _), (17, _), (18, _), (14, _), (15, _), (12, _), (10, _), (9, _), (2, _), (3, _)]) rfl ?_; intro a hf
            refine rdU hf rfl rfl rfl rfl rfl (l' := [(145, _), (144, _), (143, _), (142, _), (141, _), (140, _), (139, _), (138, _), (137, _), (136, _), (135, _), (134, _), (133, _), (132, _), (131, _), (130, _), (129, _), (128, _), (127, _), (126, _), (125, _), (124, _), (102, _), (19, _), (17, _), (18, _), (14, _), (15, _), (12, _), (10, _), (9, _), (2, _), (3, _)]) rfl ?_; intro a hf
            refine rdU hf rfl rfl rfl rfl rfl (l' := [(146, _), (145, _), (144, _), (143, _), (142, _), (141, _), (140, _), (139, _), (138, _), (137, _), (136, _), (135, _), (134, _), (133, _), (132, _), (131, _), (130, _), (129, _), (128, _), (127, _), (126, _), (125, _), (124, _), (102, _), (19, _), (17, _), (18, _), (14, _), (15, _), (12, _), (10, _), (9, _), (2, _), (3, _)]) rfl ?_; intro a hf
            refine rdU hf rfl rfl rfl rfl rfl (l' := [(147, _), (146, _), (145, _), (144, _), (143, _), (142, _), (141, _), (140, _), (139, _), (138, _), (137, _), (136, _), (135, _), (134, _), (133, _), (132, _), (131, _), (130, _), (129, _), (128, _), (127, _), (126, _), (125, _), (124, _), (102, _), (19, _), (17, _), (18, _), (14, _), (15, _), (12, _), (10, _), (9, _), (2, _), (3, _)]) rfl ?_; intro a hf
            refine rdU hf rfl rfl rfl rfl rfl (l' := [(148, _), (147, _), (146, _), (145, _), (144, _), (143, _), (142, _), (141, _), (140, _), (139, _), (138, _), (137, _), (136, _), (135, _), (134, _), (133, _), (132, _), (131, _), (130, _), (129, _), (128, _), (127, _), (126, _), (125, _), (124, _), (102, _), (19, _), (17, _), (18, _), (14, _), (15, _), (12, _), (10, _), (9, _), (2, _), (3, _)]) rfl ?_; intro a hf
            refine rdF hf rfl rfl rfl rfl (by first | exact hgT2 | simp [hgT2]) rfl (l' := [(149, _), (148, _), (147, _), (146, _), (145, _), (144, _), (143, _), (142, _), (141, _), (140, _), (139, _), (138, _), (137, _), (136, _), (135, _), (134, _), (133, _), (132, _), (131, _), (130, _), (129, _), (128, _), (127, _), (126, _), (125, _), (124, _), (102, _), (19, _), (17, _), (18, _), (14, _), (15, _), (12, _), (10, _), (9, _), (2, _), (3, _)]) rfl ?_; intro a hf
            refine rdT hf rfl rfl rfl rfl (by first | exact (decide_eq_false (by omega)) | simp [(decide_eq_false (by omega))]) (yl_pickFF rfl hgT2 rfl) rfl (l' := [(150, _), (149, _), (148, _), (147, _), (146, _), (145, _), (144, _), (143, _), (142, _), (141, _), (140, _), (139, _), (138, _), (137, _), (136, _), (135, _), (134, _), (133, _), (132, _), (131, _), (130, _), (129, _), (128, _), (127, _), (126, _), (125, _), (124, _), (102, _), (19, _), (17, _), (18, _), (14, _), (15, _), (12, _), (10, _), (9, _), (2, _), (3, _)]) rfl ?_; intro a hf
            refine rd hf rfl (yl_pickFF rfl (decide_eq_false (by omega)) rfl) rfl rfl ?_; intro a hf
            refine plan_nil ?_
            replace hf := hf.sel [151, 12, 10, 9, 3] (l' := [(151, _), (12, _), (10, _), (9, _), (3, _)]) rfl
            refine wp_ifFF hf rfl (rfl) ?_
            refine wpIn_skip ?_
            refine wpIn_seq ?_
            -- region 23 (outright.go:339)
            refine wp_reg ([]) ([_, _] ++ rs) [(0, true), (1, true), (2, true), (3, true), (4, true), (5, false), (6, true), (7, true), (8, true), (9, true), (10, true), (11, true), (12, true)] mixed (by kernel_rfl) (hT) ?_; intro w hT
            refine rd hf rfl (yl_move rfl) rfl rfl ?_; intro a hf
            refine rd hf rfl (yl_move rfl) rfl rfl ?_; intro a hf
            refine rd hf rfl (yl_move rfl) rfl rfl ?_; intro a hf
            refine rd hf rfl (yl_conv64 rfl Try.underlying22 Try.underlying2 (by unfold inI64; omega)) rfl rfl ?_; intro a hf
            refine rd hf rfl (yl_add rfl rfl (by unfold inI64; omega)) rfl rfl ?_; intro a hf
            refine ef_call hf rfl (wanted_none _ _ rfl) rfl rfl (by kernel_rfl) (Spec.frame (L2 := []) (Best_specN xs A0 xs.length cp (hXP.els (.tail _ (.head _))) hcap (m + z) hT)) rfl (l' := [(157, _), (156, _), (155, _), (154, _), (153, _), (151, _), (12, _), (10, _), (9, _), (3, _)]) rfl ?_; rintro a w v L ⟨L1, ⟨q2, o2, w2, e2, X2, rfl, hX2, rfl, hb2⟩, rfl⟩ hf hT
            obtain ⟨t2, rfl, rfl, rfl, htop2⟩ := hb2.ok hn24 hok (by omega)
            refine rd hf rfl (yl_move rfl) rfl rfl ?_; intro a hf
            refine rd hf rfl (yl_extract rfl rfl) rfl rfl ?_; intro a hf
            refine rd hf rfl (yl_extract rfl rfl) rfl rfl ?_; intro a hf
            refine rd hf rfl (yl_extract rfl rfl) rfl rfl ?_; intro a hf
            refine rd hf rfl (yl_assign rfl) rfl rfl ?_; intro a hf
            refine rd hf rfl (yl_assign rfl) rfl rfl ?_; intro a hf
            refine rd hf rfl (yl_assign rfl) rfl rfl ?_; intro a hf
            refine plan_nil ?_
            have hmon : t1.w ≤ t2.w := by have h1 := htop2.max t1 ⟨htop1.mem.1, by omega⟩; unfold gt at h1; omega
            replace hf := hf.sel [13, 21, 12, 10, 9] (l' := [(13, _), (21, _), (12, _), (10, _), (9, _)]) rfl
            refine wpIn_seq ?_
            refine wpIn_seq ?_
            -- region 24 (outright.go:340)
            refine wp_reg ([]) ([_, _, _] ++ rs) [(0, true), (1, true), (2, true), (3, true), (4, true), (5, true), (6, true)] mixed (by kernel_rfl) (hT) ?_; intro w hT
            refine rd hf rfl (yl_move rfl) rfl rfl ?_; intro a hf
            refine rd hf rfl (yl_cmp rfl rfl rfl) rfl rfl ?_; intro a hf
            refine rd hf rfl (yl_move rfl) rfl rfl ?_; intro a hf
            refine rdT hf rfl rfl rfl rfl (by first | exact (decide_eq_false (fun h => h rfl)) | simp [(decide_eq_false (fun h => h rfl))]) (yl_move rfl) rfl (l' := [(165, _), (164, _), (163, _), (162, _), (13, _), (21, _), (12, _), (10, _), (9, _)]) rfl ?_; intro a hf
            refine rdT hf rfl rfl rfl rfl (by first | exact (decide_eq_false (fun h => h rfl)) | simp [(decide_eq_false (fun h => h rfl))]) (yl_move rfl) rfl (l' := [(166, _), (165, _), (164, _), (163, _), (162, _), (13, _), (21, _), (12, _), (10, _), (9, _)]) rfl ?_; intro a hf
            refine rdT hf rfl rfl rfl rfl (by first | exact (decide_eq_false (fun h => h rfl)) | simp [(decide_eq_false (fun h => h rfl))]) (yl_cmp rfl rfl rfl) rfl (l' := [(167, _), (166, _), (165, _), (164, _), (163, _), (162, _), (13, _), (21, _), (12, _), (10, _), (9, _)]) rfl ?_; intro a hf
            refine rd hf rfl (yl_pickFF rfl (decide_eq_false (fun h => h rfl)) rfl) rfl rfl ?_; intro a hf
            refine plan_nil ?_
            replace hf := hf.sel [168, 12, 10, 9] (l' := [(168, _), (12, _), (10, _), (9, _)]) rfl
            refine wp_ifd hf rfl (fun hmo => ?_) (fun hmo => ?_)
            · -- then
              exact absurd hmo (by omega)
            · -- else
              refine wpIn_skip ?_
              refine wpIn_seq ?_
              refine wpIn_seq ?_
              -- region 26 (outright.go:343)
              refine wp_reg ([]) ([_, _, _] ++ rs) [(0, true), (1, true), (2, true)] mixed (by kernel_rfl) (hT) ?_; intro w hT
              refine rd hf rfl (yl_move rfl) rfl rfl ?_; intro a hf
              refine rd hf rfl (yl_lenE rfl Try.underlying81 (hXP.els (.tail _ (.tail _ (.head _))))) rfl rfl ?_; intro a hf
              refine rd hf rfl (yl_cmp rfl rfl rfl) rfl rfl ?_; intro a hf
              refine plan_nil ?_
              replace hf := hf.sel [171, 12, 10, 9] (l' := [(171, _), (12, _), (10, _), (9, _)]) rfl
              refine wp_ifd hf rfl (fun hpos => ?_) (fun hpos => ?_)
              · -- then
                refine wpIn_seq ?_
                -- region 27 (outright.go:344)
                refine wp_reg ([]) ([_, _, _] ++ rs) [(0, true), (1, true), (2, true), (3, false), (4, true), (5, true), (6, true), (7, true), (8, true), (9, true), (10, true)] mixed (by kernel_rfl) (hT) ?_; intro w hT
                refine rd hf rfl (yl_move rfl) rfl rfl ?_; intro a hf
                refine rd hf rfl (yl_slice (L := 1) (H := xs.length) (A := A0) (c := cp) rfl Try.underlying81 sz_90 rfl rfl (by omega) (by omega)) rfl rfl ?_; intro a hf
                refine rd hf rfl (yl_move rfl) rfl rfl ?_; intro a hf
                refine ef_call hf rfl (wanted_none _ _ rfl) rfl rfl (by kernel_rfl) (Spec.frame (L2 := []) (Best_specN (xs.drop 1) _ (xs.length - 1) (cp - 1) (hXP.dropE (.tail _ (.tail _ (.head _))) (by omega)) (by omega) m hT)) rfl (l' := [(175, _), (174, _), (173, _), (171, _), (12, _), (10, _), (9, _)]) rfl ?_; rintro a w v L ⟨L1, ⟨q3, o3, w3, e3, X3, rfl, hX3, rfl, hb3⟩, rfl⟩ hf hT
                obtain ⟨t3, rfl, rfl, rfl, htop3⟩ := hb3.ok (by rw [List.length_drop]; omega) (fun x hx => hok x (List.mem_of_mem_drop hx)) (by omega)
                have hdr := top_drop htop1 htop3 (by omega)
                refine rd hf rfl (yl_move rfl) rfl rfl ?_; intro a hf
                refine rd hf rfl (yl_extract rfl rfl) rfl rfl ?_; intro a hf
                refine rd hf rfl (yl_extract rfl rfl) rfl rfl ?_; intro a hf
                refine rd hf rfl (yl_extract rfl rfl) rfl rfl ?_; intro a hf
                refine rd hf rfl (yl_assign rfl) rfl rfl ?_; intro a hf
                refine rd hf rfl (yl_assign rfl) rfl rfl ?_; intro a hf
                refine rd hf rfl (yl_assign rfl) rfl rfl ?_; intro a hf
                refine plan_nil ?_
                replace hf := hf.sel [24, 23, 12] (l' := [(24, _), (23, _), (12, _)]) rfl
                refine wpIn_seq ?_
                -- region 28 (outright.go:345)
                refine wp_reg ([]) ([_, _, _, _] ++ rs) [(0, true), (1, true), (2, true), (3, true), (4, true), (5, true), (6, true)] mixed (by kernel_rfl) (hT) ?_; intro w hT
                refine rd hf rfl (yl_move rfl) rfl rfl ?_; intro a hf
                refine rd hf rfl (yl_cmp rfl rfl rfl) rfl rfl ?_; intro a hf
                refine rd hf rfl (yl_move rfl) rfl rfl ?_; intro a hf
                refine rdT hf rfl rfl rfl rfl (by first | exact (decide_eq_false (fun h => h rfl)) | simp [(decide_eq_false (fun h => h rfl))]) (yl_move rfl) rfl (l' := [(183, _), (182, _), (181, _), (180, _), (24, _), (23, _), (12, _)]) rfl ?_; intro a hf
                refine rdT hf rfl rfl rfl rfl (by first | exact (decide_eq_false (fun h => h rfl)) | simp [(decide_eq_false (fun h => h rfl))]) (yl_move rfl) rfl (l' := [(184, _), (183, _), (182, _), (181, _), (180, _), (24, _), (23, _), (12, _)]) rfl ?_; intro a hf
                refine rdT hf rfl rfl rfl rfl (by first | exact (decide_eq_false (fun h => h rfl)) | simp [(decide_eq_false (fun h => h rfl))]) (yl_cmp rfl rfl rfl) rfl (l' := [(185, _), (184, _), (183, _), (182, _), (181, _), (180, _), (24, _), (23, _), (12, _)]) rfl ?_; intro a hf
                refine rd hf rfl (yl_pickFF rfl (decide_eq_false (fun h => h rfl)) rfl) rfl rfl ?_; intro a hf
                refine plan_nil ?_
                replace hf := hf.sel [186] (l' := [(186, _)]) rfl
                refine wp_ifd hf rfl (fun hdd => ?_) (fun hdd => ?_)
                · -- then
                  exact absurd hdd (by omega)
                · -- else
                  refine wpIn_skip ?_
                  refine wpIn_seq ?_
                  -- region 30 (outright.go:349)
                  refine wp_reg ([]) ([_, _, _, _] ++ rs) [(0, false), (1, true)] mixed (by kernel_rfl) (hT) ?_; intro w hT
                  refine ef_call hf rfl (wanted_none _ _ rfl) rfl rfl (by kernel_rfl) (Spec.frame (L2 := []) (fine_spec hT)) rfl (l' := [(186, _)]) rfl ?_; rintro a w v L ⟨L1, ⟨rfl, rfl⟩, rfl⟩ hf hT
                  refine rd hf rfl (yl_assign rfl) rfl rfl ?_; intro a hf
                  refine plan_nil ?_
                  refine wpIn_ret ?_
                  exact body_ret hf (L := []) hT.tail.tail.tail.tail rfl rfl ⟨rfl, rfl⟩
              · -- else
                refine wpIn_skip ?_
                refine wpIn_seq ?_
                -- region 30 (outright.go:349)
                refine wp_reg ([]) ([_, _, _] ++ rs) [(0, false), (1, true)] mixed (by kernel_rfl) (hT) ?_; intro w hT
                refine ef_call hf rfl (wanted_none _ _ rfl) rfl rfl (by kernel_rfl) (Spec.frame (L2 := []) (fine_spec hT)) rfl (l' := [(171, _), (12, _), (10, _), (9, _)]) rfl ?_; rintro a w v L ⟨L1, ⟨rfl, rfl⟩, rfl⟩ hf hT
                refine rd hf rfl (yl_assign rfl) rfl rfl ?_; intro a hf
                refine plan_nil ?_
                replace hf := hf.sel [8] (l' := [(8, _)]) rfl
                refine wpIn_ret ?_
                exact body_ret hf (L := []) hT.tail.tail.tail rfl rfl ⟨rfl, rfl⟩
end Go.Proofs.Ytjhbgciocffihaa
