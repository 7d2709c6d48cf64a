/-
  Plain words on choices: all choices of parcels, the order among them, the best one; by halves, and one after another.
-/
import Derived.Test.YtjhbgciocffihaaK14
set_option linter.unusedVariables false
set_option linter.unusedSimpArgs false
set_option linter.unusedSectionVars false
namespace Go.Proofs.Ytjhbgciocffihaa

structure Pcl where
  sz : Int
  wo : Int
structure Ch where
  b : Nat
  w : Int
  s : Int
def Ch.zero : Ch := ⟨0, 0, 0⟩
def Ch.add (c d : Ch) : Ch := ⟨c.b + d.b, c.w + d.w, c.s + d.s⟩
def unit (x : Pcl) (k : Nat) : Ch := ⟨2 ^ k, x.wo, x.sz⟩
def all : List Pcl → Nat → List Ch
  | [], _ => [Ch.zero]
  | x :: xs, o => all xs (o - 1) ++ (all xs (o - 1)).map (unit x (o - 1)).add
def gt (c d : Ch) : Prop := d.w < c.w ∨ (c.w = d.w ∧ (c.s < d.s ∨ (c.s = d.s ∧ d.b < c.b)))
instance (c d : Ch) : Decidable (gt c d) := by unfold gt; infer_instance
structure Pok (x : Pcl) : Prop where
  s1 : 1 ≤ x.sz
  s2 : x.sz ≤ 16777216
  w1 : 0 ≤ x.wo
  w2 : x.wo ≤ 1048576
theorem Ch.ext' {c d : Ch} (h1 : c.b = d.b) (h2 : c.w = d.w) (h3 : c.s = d.s) : c = d := by
  cases c; cases d; simp only at h1 h2 h3; subst h1 h2 h3; rfl
theorem Ch.zero_add (c : Ch) : Ch.zero.add c = c := Ch.ext' (Nat.zero_add _) (Int.zero_add _) (Int.zero_add _)
theorem Ch.add_assoc (a b c : Ch) : (a.add b).add c = a.add (b.add c) := Ch.ext' (Nat.add_assoc ..) (Int.add_assoc ..) (Int.add_assoc ..)
theorem gt_add {c d e : Ch} : gt (c.add d) (c.add e) ↔ gt d e := by
  unfold gt Ch.add; simp only; omega
theorem ngt_trans {a b c : Ch} (h1 : ¬ gt a b) (h2 : ¬ gt b c) : ¬ gt a c := by
  unfold gt at *; omega
theorem gt_irr {a : Ch} : ¬ gt a a := by
  unfold gt; omega
theorem gt_asymm {a b : Ch} (h : gt a b) : ¬ gt b a := by
  unfold gt at *; omega
theorem gt_eq {a b : Ch} (h1 : ¬ gt a b) (h2 : ¬ gt b a) : a = b := by
  unfold gt at *
  exact Ch.ext' (by omega) (by omega) (by omega)
theorem pow_succ' (n : Nat) : 2 ^ (n + 1) = 2 ^ n + 2 ^ n := by rw [Nat.pow_succ]; omega
theorem zero_mem : ∀ (xs : List Pcl) (o : Nat), Ch.zero ∈ all xs o
  | [], _ => List.mem_cons_self ..
  | _ :: xs, o => List.mem_append_left _ (zero_mem xs (o - 1))
theorem mem_cons_all {x : Pcl} {xs : List Pcl} {o : Nat} {y : Ch} : y ∈ all (x :: xs) o ↔ y ∈ all xs (o - 1) ∨ ∃ z, z ∈ all xs (o - 1) ∧ y = (unit x (o - 1)).add z := by
  show y ∈ all xs (o - 1) ++ (all xs (o - 1)).map (unit x (o - 1)).add ↔ _
  simp only [List.mem_append, List.mem_map]
  constructor
  · rintro (h | ⟨z, hz, rfl⟩)
    · exact .inl h
    · exact .inr ⟨z, hz, rfl⟩
  · rintro (h | ⟨z, hz, rfl⟩)
    · exact .inl h
    · exact .inr ⟨z, hz, rfl⟩
theorem all_len : ∀ (xs : List Pcl) (o : Nat), (all xs o).length = 2 ^ xs.length
  | [], _ => rfl
  | _ :: xs, o => by
    show (all xs (o - 1) ++ (all xs (o - 1)).map _).length = _
    rw [List.length_append, List.length_map, all_len xs (o - 1), List.length_cons, pow_succ']
structure Rng (n o : Nat) (y : Ch) : Prop where
  b : y.b < 2 ^ o
  d : 2 ^ (o - n) ∣ y.b
  w1 : 0 ≤ y.w
  w2 : y.w ≤ 1048576 * n
  s1 : 0 ≤ y.s
  s2 : y.s ≤ 16777216 * n
theorem all_rng : ∀ (xs : List Pcl) (o : Nat), xs.length ≤ o → (∀ x ∈ xs, Pok x) → ∀ y ∈ all xs o, Rng xs.length o y
  | [], o, _, _, y, hy => by
    obtain rfl : y = Ch.zero := by simpa [all] using hy
    exact ⟨Nat.pow_pos (by decide), Nat.dvd_zero _, by decide, by decide, by decide, by decide⟩
  | x :: xs, o, ho, hx, y, hy => by
    have hl : (x :: xs).length = xs.length + 1 := rfl
    obtain ⟨o', rfl⟩ : ∃ o', o = o' + 1 := ⟨o - 1, by omega⟩
    have ih := all_rng xs o' (by omega) (fun z hz => hx z (List.mem_cons_of_mem _ hz))
    have hp := hx x (List.mem_cons_self ..)
    obtain ⟨p1, p2, p3, p4⟩ := hp
    have hpw := pow_succ' o'
    rcases mem_cons_all.1 hy with h | ⟨z, hz, rfl⟩
    · obtain ⟨h1, h2, h3, h4, h5, h6⟩ := ih y h
      refine ⟨by omega, ?_, h3, by rw [hl]; omega, h5, by rw [hl]; omega⟩
      rw [hl, show o' + 1 - (xs.length + 1) = o' - xs.length by omega]; exact h2
    · obtain ⟨h1, h2, h3, h4, h5, h6⟩ := ih z hz
      refine ⟨by show 2 ^ o' + z.b < _; omega, ?_, by show 0 ≤ x.wo + z.w; omega, by show x.wo + z.w ≤ _; rw [hl]; omega, by show 0 ≤ x.sz + z.s; omega, by show x.sz + z.s ≤ _; rw [hl]; omega⟩
      rw [show (x :: xs).length = xs.length + 1 from rfl, show o' + 1 - (xs.length + 1) = o' - xs.length by omega]
      exact Nat.dvd_add (Nat.pow_dvd_pow 2 (Nat.sub_le ..)) h2
theorem all_app : ∀ (a b : List Pcl) (o : Nat) (y : Ch), y ∈ all (a ++ b) o ↔ ∃ c, c ∈ all a o ∧ ∃ d, d ∈ all b (o - a.length) ∧ y = c.add d
  | [], b, o, y => by
    constructor
    · intro h; exact ⟨Ch.zero, List.mem_cons_self .., y, h, (Ch.zero_add y).symm⟩
    · rintro ⟨c, hc, d, hd, rfl⟩
      obtain rfl : c = Ch.zero := by simpa [all] using hc
      rw [Ch.zero_add]; exact hd
  | x :: a, b, o, y => by
    have e : o - (x :: a).length = o - 1 - a.length := by rw [List.length_cons]; omega
    rw [List.cons_append, mem_cons_all, e]
    constructor
    · rintro (h | ⟨z, hz, rfl⟩)
      · obtain ⟨c, hc, d, hd, rfl⟩ := (all_app a b (o - 1) y).1 h
        exact ⟨c, mem_cons_all.2 (.inl hc), d, hd, rfl⟩
      · obtain ⟨c, hc, d, hd, rfl⟩ := (all_app a b (o - 1) z).1 hz
        exact ⟨_, mem_cons_all.2 (.inr ⟨c, hc, rfl⟩), d, hd, (Ch.add_assoc ..).symm⟩
    · rintro ⟨c, hc, d, hd, rfl⟩
      rcases mem_cons_all.1 hc with h | ⟨z, hz, rfl⟩
      · exact .inl ((all_app a b (o - 1) _).2 ⟨c, h, d, hd, rfl⟩)
      · exact .inr ⟨_, (all_app a b (o - 1) _).2 ⟨z, hz, d, hd, rfl⟩, Ch.add_assoc ..⟩
/-- The bits of a choice of the first ones and of one of the last ones do not meet. -/
theorem or_add {a b k : Nat} (h : 2 ^ k ∣ a) (hb : b < 2 ^ k) : a ||| b = a + b := by
  obtain ⟨c, rfl⟩ := h
  exact (Nat.two_pow_add_eq_or_of_lt hb c).symm
/-- What a walk from one parcel on adds to a choice. -/
theorem all_step {xs : List Pcl} {i : Nat} {x : Pcl} (hx : xs[i]? = some x) (o : Nat) (c c' : Ch) (hc : c' = c.add (unit x (o - i - 1))) :
    (all (xs.drop i) (o - i)).map c.add = (all (xs.drop (i + 1)) (o - (i + 1))).map c.add ++ (all (xs.drop (i + 1)) (o - (i + 1))).map c'.add := by
  obtain ⟨hi, he⟩ := List.getElem?_eq_some_iff.1 hx
  rw [List.drop_eq_getElem_cons hi, he]
  show (all _ (o - i - 1) ++ (all _ (o - i - 1)).map _).map _ = _
  rw [List.map_append, List.map_map, show o - (i + 1) = o - i - 1 by omega, hc]
  congr 1
  apply List.map_congr_left
  intro d _
  exact (Ch.add_assoc ..).symm
theorem all_end {xs : List Pcl} {i : Nat} (h : xs.length ≤ i) (o : Nat) (c : Ch) : (all (xs.drop i) o).map c.add = [c] := by
  rw [List.drop_eq_nil_of_le h]
  show [c.add Ch.zero] = [c]
  congr 1
  exact Ch.ext' (Nat.add_zero _) (Int.add_zero _) (Int.add_zero _)
/-- The best of some. -/
structure Top (F : Ch → Prop) (x : Ch) : Prop where
  mem : F x
  max : ∀ y, F y → ¬ gt y x
theorem Top.uniq {F : Ch → Prop} {x y : Ch} (h1 : Top F x) (h2 : Top F y) : x = y := gt_eq (h2.max _ h1.mem) (h1.max _ h2.mem)
def Fe (xs : List Pcl) (m : Int) (y : Ch) : Prop := y ∈ all xs 24 ∧ y.s ≤ m
/-- The best up to each one of a list. -/
def PB (S B : List Ch) (k : Nat) : Prop := B.length = S.length ∧ (∀ i (h : i < B.length), k ≤ i → S[i]? = some B[i]) ∧ ∀ i (h : i < B.length), i < k → Top (fun y => y ∈ S.take (i + 1)) B[i]
theorem PB.one {S : List Ch} : PB S S 1 := by
  refine ⟨rfl, fun i h _ => by simp [h], fun i h hk => ?_⟩
  obtain rfl : i = 0 := by omega
  obtain ⟨a, l, rfl⟩ : ∃ a l, S = a :: l := by cases S with | nil => cases h | cons a l => exact ⟨a, l, rfl⟩
  refine ⟨by simp, fun y hy => ?_⟩
  obtain rfl : y = a := by simpa using hy
  exact gt_irr
theorem PB.step {S B : List Ch} {k : Nat} {p q : Ch} (h : PB S B k) (h0 : 0 < k) (hk : k < B.length) (hp : B[k - 1]? = some p) (hq : B[k]? = some q) : PB S (if gt p q then B.set k p else B) (k + 1) := by
  obtain ⟨h1, h2, h3⟩ := h
  have hp' : B[k - 1]'(by omega) = p := (List.getElem?_eq_some_iff.1 hp).2
  have hq' : B[k] = q := (List.getElem?_eq_some_iff.1 hq).2
  have hs : S[k]? = some q := hq' ▸ h2 k hk (Nat.le_refl _)
  have ht := h3 (k - 1) (by omega) (by omega)
  rw [hp', show k - 1 + 1 = k by omega] at ht
  have hkS : k < S.length := by omega
  have hS : S.take (k + 1) = S.take k ++ [q] := by
    rw [List.take_succ_eq_append_getElem hkS, (List.getElem?_eq_some_iff.1 hs).2]
  have hmem : ∀ y, y ∈ S.take (k + 1) ↔ y ∈ S.take k ∨ y = q := fun y => by rw [hS]; simp
  by_cases hg : gt p q
  · rw [if_pos hg]
    refine ⟨by rw [List.length_set]; exact h1, fun i hi hik => ?_, fun i hi hik => ?_⟩
    · rw [List.length_set] at hi
      rw [List.getElem_set_ne (by omega)]
      exact h2 i hi (by omega)
    · rw [List.length_set] at hi
      by_cases he : i = k
      · subst he
        rw [List.getElem_set_self]
        refine ⟨(hmem _).2 (.inl ht.mem), fun y hy => ?_⟩
        rcases (hmem y).1 hy with h | rfl
        · exact ht.max y h
        · exact gt_asymm hg
      · rw [List.getElem_set_ne (by omega)]
        exact h3 i hi (by omega)
  · rw [if_neg hg]
    refine ⟨h1, fun i hi hik => h2 i hi (by omega), fun i hi hik => ?_⟩
    by_cases he : i = k
    · subst he
      rw [hq']
      refine ⟨(hmem _).2 (.inr rfl), fun y hy => ?_⟩
      rcases (hmem y).1 hy with h | rfl
      · exact ngt_trans (ht.max y h) hg
      · exact gt_irr
    · exact h3 i hi (by omega)
/-- The best one so far, of the first halves that were looked at. -/
structure Half (xs ys : List Pcl) (m : Int) (C : List Ch) (t : Ch) : Prop where
  mem : Fe (xs ++ ys) m t
  max : ∀ c, c ∈ C → ∀ d, d ∈ all ys (24 - xs.length) → c.s + d.s ≤ m → ¬ gt (c.add d) t
theorem Half.nil {xs ys : List Pcl} {m : Int} (h : 0 ≤ m) : Half xs ys m [] Ch.zero := ⟨⟨zero_mem _ _, h⟩, fun c hc => absurd hc List.not_mem_nil⟩
theorem Half.none {xs ys : List Pcl} {m : Int} {C S : List Ch} {t c : Ch} (h : Half xs ys m C t) (hS : S.Perm (all ys (24 - xs.length))) (hn : ∀ j (hj : j < S.length), m - c.s < S[j].s) : Half xs ys m (C ++ [c]) t := by
  refine ⟨h.mem, fun c' hc' d hd hm => ?_⟩
  rcases List.mem_append.1 hc' with hc | hc
  · exact h.max c' hc d hd hm
  · obtain rfl : c' = c := by simpa using hc
    obtain ⟨j, hj, rfl⟩ := List.getElem_of_mem (hS.mem_iff.2 hd)
    have := hn j hj
    omega
theorem Half.some {xs ys : List Pcl} {m : Int} {C S B : List Ch} {t c d : Ch} {n : Nat} (h : Half xs ys m C t) (hS : S.Perm (all ys (24 - xs.length))) (hB : PB S B S.length) (hc : c ∈ all xs 24) (h0 : 0 < n) (hn : n ≤ S.length) (hlo : ∀ j (hj : j < S.length), j < n → S[j].s ≤ m - c.s) (hhi : ∀ j (hj : j < S.length), n ≤ j → m - c.s < S[j].s) (hd : B[n - 1]? = some d) :
    Half xs ys m (C ++ [c]) (if gt (c.add d) t then c.add d else t) := by
  obtain ⟨h1, h2, h3⟩ := hB
  obtain ⟨hl, he⟩ := List.getElem?_eq_some_iff.1 hd
  have ht := h3 (n - 1) hl (by omega)
  rw [he, show n - 1 + 1 = n by omega] at ht
  have hdS : d ∈ S := List.mem_of_mem_take ht.mem
  have hds : d.s ≤ m - c.s := by
    obtain ⟨j, hj, e⟩ := List.getElem_of_mem ht.mem
    have hj' : j < n ∧ j < S.length := by rw [List.length_take] at hj; omega
    rw [List.getElem_take] at e
    have := hlo j hj'.2 hj'.1
    rw [e] at this; exact this
  have hF : Fe (xs ++ ys) m (c.add d) := ⟨(all_app xs ys 24 _).2 ⟨c, hc, d, hS.mem_iff.1 hdS, rfl⟩, by show c.s + d.s ≤ m; omega⟩
  have hmax : ∀ e, e ∈ all ys (24 - xs.length) → c.s + e.s ≤ m → ¬ gt (c.add e) (c.add d) := by
    intro e he hm
    rw [gt_add]
    obtain ⟨j, hj, rfl⟩ := List.getElem_of_mem (hS.mem_iff.2 he)
    have hjn : j < n := by
      apply Nat.lt_of_not_le; intro hle
      have := hhi j hj hle
      omega
    exact ht.max _ (by
      have : (S.take n)[j]? = Option.some S[j] := by rw [List.getElem?_take_of_lt hjn]; simp [hj]
      exact List.mem_of_getElem? this)
  by_cases hg : gt (c.add d) t
  · rw [if_pos hg]
    refine ⟨hF, fun c' hc' e he hm => ?_⟩
    rcases List.mem_append.1 hc' with hc | hc
    · exact ngt_trans (h.max c' hc e he hm) (gt_asymm hg)
    · obtain rfl : c' = c := by simpa using hc
      exact hmax e he hm
  · rw [if_neg hg]
    refine ⟨h.mem, fun c' hc' e he hm => ?_⟩
    rcases List.mem_append.1 hc' with hc | hc
    · exact h.max c' hc e he hm
    · obtain rfl : c' = c := by simpa using hc
      exact ngt_trans (hmax e he hm) hg
theorem Half.top {xs ys : List Pcl} {m : Int} {t : Ch} (h : Half xs ys m (all xs 24) t) : Top (Fe (xs ++ ys) m) t :=
  ⟨h.mem, fun y hy => by
    obtain ⟨c, hc, d, hd, rfl⟩ := (all_app xs ys 24 y).1 hy.1
    exact h.max c hc d hd hy.2⟩
/-- The indexes of a choice. -/
def cidx : Nat → Nat → Nat → Nat → List Nat
  | 0, _, _, _ => []
  | n + 1, o, k, b => if b.testBit (o - 1) = true then k :: cidx n (o - 1) (k + 1) b else cidx n (o - 1) (k + 1) b
theorem idx_high : ∀ (n o k h b : Nat), n ≤ o → cidx n o k (2 ^ o * h + b) = cidx n o k b
  | 0, _, _, _, _, _ => rfl
  | n + 1, o, k, h, b, ho => by
    obtain ⟨o', rfl⟩ : ∃ o', o = o' + 1 := ⟨o - 1, by omega⟩
    have e : 2 ^ (o' + 1) * h + b = 2 ^ o' * (2 * h) + b := by rw [Nat.pow_succ, Nat.mul_assoc]
    have ih := idx_high n o' (k + 1) (2 * h) b (by omega)
    have ht : (2 ^ (o' + 1) * h + b).testBit o' = b.testBit o' := by
      rw [Nat.testBit_eq_decide_div_mod_eq, Nat.testBit_eq_decide_div_mod_eq, e, Nat.mul_add_div (Nat.pow_pos (by decide))]
      congr 1
      apply propext
      omega
    show (if (2 ^ (o' + 1) * h + b).testBit o' = true then k :: cidx n o' (k + 1) _ else cidx n o' (k + 1) _) = if b.testBit o' = true then k :: cidx n o' (k + 1) b else cidx n o' (k + 1) b
    rw [ht, e, ih]
theorem idx_zero {n o k b : Nat} (ho : 0 < o) (hb : b < 2 ^ (o - 1)) : cidx (n + 1) o k b = cidx n (o - 1) (k + 1) b := by
  show (if _ then _ else _) = _
  rw [if_neg (by rw [Nat.testBit_lt_two_pow hb]; decide)]
theorem idx_one {n o k b : Nat} (ho : n + 1 ≤ o) (hb : b < 2 ^ (o - 1)) : cidx (n + 1) o k (2 ^ (o - 1) + b) = k :: cidx n (o - 1) (k + 1) b := by
  show (if _ then _ else _) = _
  have h1 : (2 ^ (o - 1) + b).testBit (o - 1) = true := by
    rw [Nat.testBit_eq_decide_div_mod_eq, show 2 ^ (o - 1) + b = 2 ^ (o - 1) * 1 + b by omega, Nat.mul_add_div (Nat.pow_pos (by decide)), Nat.div_eq_of_lt hb]
    rfl
  have h2 := idx_high n (o - 1) (k + 1) 1 b (by omega)
  rw [Nat.mul_one] at h2
  rw [if_pos h1, h2]
theorem idx_low : ∀ (d n k o b : Nat), d ≤ n → n ≤ o → b < 2 ^ (o - d) → cidx n o k b = cidx (n - d) (o - d) (k + d) b
  | 0, _, _, _, _, _, _, _ => rfl
  | d + 1, n, k, o, b, hn, ho, hb => by
    obtain ⟨n', rfl⟩ : ∃ n', n = n' + 1 := ⟨n - 1, by omega⟩
    have hb' : b < 2 ^ (o - 1) := Nat.lt_of_lt_of_le hb (Nat.pow_le_pow_right (by decide) (by omega))
    rw [idx_zero (by omega) hb', idx_low d n' (k + 1) (o - 1) b (by omega) (by omega) (by rw [show o - 1 - d = o - (d + 1) by omega]; exact hb)]
    rw [show n' + 1 - (d + 1) = n' - d by omega, show o - (d + 1) = o - 1 - d by omega, show k + (d + 1) = k + 1 + d by omega]
def isum (f : Nat → Int) : List Nat → Int
  | [] => 0
  | i :: l => f i + isum f l
/-- What the indexes of a choice have in sum. -/
theorem idx_sum (g : Pcl → Int) (v : Ch → Int) (hz : v Ch.zero = 0) (ha : ∀ x k d, v ((unit x k).add d) = g x + v d) (f : Nat → Int) : ∀ (xs : List Pcl) (o k : Nat), xs.length ≤ o → (∀ x ∈ xs, Pok x) → (∀ j x, xs[j]? = some x → f (k + j) = g x) → ∀ y ∈ all xs o, isum f (cidx xs.length o k y.b) = v y
  | [], o, k, _, _, _, y, hy => by
    obtain rfl : y = Ch.zero := by simpa [all] using hy
    exact hz.symm
  | x :: xs, o, k, ho, hx, hf, y, hy => by
    have hl : (x :: xs).length = xs.length + 1 := rfl
    have hxs := fun z hz => hx z (List.mem_cons_of_mem _ hz)
    have ih := idx_sum g v hz ha f xs (o - 1) (k + 1) (by omega) hxs (fun j z hj => by rw [show k + 1 + j = k + (j + 1) by omega]; exact hf (j + 1) z hj)
    rcases mem_cons_all.1 hy with h | ⟨z, hz', rfl⟩
    · rw [hl, idx_zero (by omega) (all_rng xs (o - 1) (by omega) hxs y h).b]
      exact ih y h
    · rw [hl, show ((unit x (o - 1)).add z).b = 2 ^ (o - 1) + z.b from rfl, idx_one (by omega) (all_rng xs (o - 1) (by omega) hxs z hz').b]
      show f k + _ = _
      rw [ih z hz', ha, show f k = g x from hf 0 x rfl]
theorem idx_ge : ∀ (n o k b : Nat), ∀ i ∈ cidx n o k b, k ≤ i ∧ i < k + n
  | 0, _, _, _, i, h => absurd h List.not_mem_nil
  | n + 1, o, k, b, i, h => by
    have ih := idx_ge n (o - 1) (k + 1) b i
    unfold cidx at h
    by_cases hb : b.testBit (o - 1) = true
    · rw [if_pos hb] at h
      rcases List.mem_cons.1 h with rfl | h
      · omega
      · have := ih h; omega
    · rw [if_neg hb] at h
      have := ih h; omega
theorem idx_sorted : ∀ (n o k b : Nat), (cidx n o k b).Pairwise (· < ·)
  | 0, _, _, _ => List.Pairwise.nil
  | n + 1, o, k, b => by
    have ih := idx_sorted n (o - 1) (k + 1) b
    unfold cidx
    by_cases hb : b.testBit (o - 1) = true
    · rw [if_pos hb]
      exact List.pairwise_cons.2 ⟨fun i hi => by have := idx_ge _ _ _ _ i hi; omega, ih⟩
    · rw [if_neg hb]; exact ih
/-- Any choice is among all of them. -/
def csel (f : Nat → Bool) : List Pcl → Nat → Nat → Ch
  | [], _, _ => Ch.zero
  | x :: xs, o, k => if f k = true then (unit x (o - 1)).add (csel f xs (o - 1) (k + 1)) else csel f xs (o - 1) (k + 1)
theorem csel_mem (f : Nat → Bool) : ∀ (xs : List Pcl) (o k : Nat), csel f xs o k ∈ all xs o
  | [], _, _ => List.mem_cons_self ..
  | x :: xs, o, k => by
    unfold csel
    by_cases h : f k = true
    · rw [if_pos h]; exact mem_cons_all.2 (.inr ⟨_, csel_mem f xs (o - 1) (k + 1), rfl⟩)
    · rw [if_neg h]; exact mem_cons_all.2 (.inl (csel_mem f xs (o - 1) (k + 1)))
theorem all_move : ∀ (xs : List Pcl) (o p : Nat), ∀ y ∈ all xs o, ∃ z, z ∈ all xs p ∧ z.w = y.w ∧ z.s = y.s
  | [], _, _, y, hy => ⟨y, hy, rfl, rfl⟩
  | x :: xs, o, p, y, hy => by
    rcases mem_cons_all.1 hy with h | ⟨z, hz, rfl⟩
    · obtain ⟨z, h1, h2⟩ := all_move xs (o - 1) (p - 1) y h
      exact ⟨z, mem_cons_all.2 (.inl h1), h2⟩
    · obtain ⟨z', h1, h2, h3⟩ := all_move xs (o - 1) (p - 1) z hz
      exact ⟨_, mem_cons_all.2 (.inr ⟨z', h1, rfl⟩), by show x.wo + z'.w = x.wo + z.w; rw [h2], by show x.sz + z'.s = x.sz + z.s; rw [h3]⟩
/-- One after another: the best of those with no index between. -/
structure Chn (xs : List Pcl) (m : Int) (a i : Nat) (t : Ch) : Prop where
  mem : t ∈ all (xs.drop a) (24 - a)
  fe : t.s ≤ m
  far : t = Ch.zero ∨ 2 ^ (24 - i) ≤ t.b
  max : ∀ y, y ∈ all (xs.drop a) (24 - a) → y.s ≤ m → (y = Ch.zero ∨ 2 ^ (24 - i) ≤ y.b) → ¬ gt y t
/-- Whether the new one is better: by its worth, then by its size. -/
def wsgt (c d : Ch) : Prop := d.w < c.w ∨ (c.w = d.w ∧ c.s < d.s)
instance (c d : Ch) : Decidable (wsgt c d) := by unfold wsgt; infer_instance
section
variable {xs : List Pcl} {m : Int} {a i : Nat} {t : Ch} (hn : xs.length ≤ 24) (hx : ∀ x ∈ xs, Pok x)
include hn hx
theorem drop_rng (k : Nat) (hk : k ≤ xs.length) (y : Ch) (hy : y ∈ all (xs.drop k) (24 - k)) : y.b < 2 ^ (24 - k) ∧ 0 ≤ y.s ∧ 0 ≤ y.w :=
  have := all_rng (xs.drop k) (24 - k) (by rw [List.length_drop]; omega) (fun x h => hx x (List.mem_of_mem_drop h)) y hy
  ⟨this.b, this.s1, this.w1⟩
theorem drop_cons (k : Nat) (x : Pcl) (he : xs[k]? = some x) (y : Ch) : y ∈ all (xs.drop k) (24 - k) ↔ y ∈ all (xs.drop (k + 1)) (24 - (k + 1)) ∨ ∃ z, z ∈ all (xs.drop (k + 1)) (24 - (k + 1)) ∧ y = (unit x (23 - k)).add z := by
  obtain ⟨hk, he'⟩ := List.getElem?_eq_some_iff.1 he
  rw [List.drop_eq_getElem_cons hk, he', mem_cons_all, show 24 - k - 1 = 24 - (k + 1) by omega, show 24 - (k + 1) = 23 - k by omega]
theorem drop_low : ∀ d k, k + d ≤ xs.length → ∀ y, y ∈ all (xs.drop k) (24 - k) → y.b < 2 ^ (24 - (k + d)) → y ∈ all (xs.drop (k + d)) (24 - (k + d)) := by
  intro d
  induction d with
  | zero => intro k _ y hy _; exact hy
  | succ d ih =>
    intro k hk y hy hb
    obtain ⟨x, he⟩ : ∃ x, xs[k]? = some x := ⟨xs[k]'(by omega), by rw [List.getElem?_eq_getElem]⟩
    rw [show k + (d + 1) = k + 1 + d by omega] at hb ⊢
    rcases (drop_cons hn hx k x he y).1 hy with h | ⟨z, hz, rfl⟩
    · exact ih (k + 1) (by omega) y h hb
    · exfalso
      have h1 : 2 ^ (24 - (k + 1 + d)) ≤ 2 ^ (23 - k) := Nat.pow_le_pow_right (by decide) (by omega)
      have h2 : ((unit x (23 - k)).add z).b = 2 ^ (23 - k) + z.b := rfl
      omega
theorem drop_up : ∀ d k, k + d ≤ xs.length → ∀ y, y ∈ all (xs.drop (k + d)) (24 - (k + d)) → y ∈ all (xs.drop k) (24 - k) := by
  intro d
  induction d with
  | zero => intro k _ y hy; exact hy
  | succ d ih =>
    intro k hk y hy
    obtain ⟨x, he⟩ : ∃ x, xs[k]? = some x := ⟨xs[k]'(by omega), by rw [List.getElem?_eq_getElem]⟩
    rw [show k + (d + 1) = k + 1 + d by omega] at hy
    exact (drop_cons hn hx k x he y).2 (.inl (ih (k + 1) (by omega) y hy))
theorem Chn.start (ha : a ≤ xs.length) (hm : 0 ≤ m) : Chn xs m a a Ch.zero :=
  ⟨zero_mem _ _, hm, .inl rfl, fun y hy _ h => by
    rcases h with rfl | h
    · exact gt_irr
    · have := (drop_rng hn hx a ha y hy).1; omega⟩
/-- Those that come new: with the parcel itself. -/
theorem Chn.new (hai : a ≤ i) (x : Pcl) (he : xs[i]? = some x) (y : Ch) (hy : y ∈ all (xs.drop a) (24 - a)) (h1 : 2 ^ (24 - (i + 1)) ≤ y.b) (h2 : y.b < 2 ^ (24 - i)) : ∃ z, z ∈ all (xs.drop (i + 1)) (24 - (i + 1)) ∧ y = (unit x (23 - i)).add z := by
  obtain ⟨hi, _⟩ := List.getElem?_eq_some_iff.1 he
  have h3 := drop_low hn hx (i - a) a (by omega) y hy (by rw [show a + (i - a) = i by omega]; exact h2)
  rw [show a + (i - a) = i by omega] at h3
  rcases (drop_cons hn hx i x he y).1 h3 with h | h
  · have := (drop_rng hn hx (i + 1) (by omega) y h).1
    omega
  · exact h
theorem Chn.skip (h : Chn xs m a i t) (hai : a ≤ i) (x : Pcl) (he : xs[i]? = some x) (hs : m < x.sz) : Chn xs m a (i + 1) t := by
  obtain ⟨hi, _⟩ := List.getElem?_eq_some_iff.1 he
  have hp : 2 ^ (24 - (i + 1)) ≤ 2 ^ (24 - i) := Nat.pow_le_pow_right (by decide) (by omega)
  refine ⟨h.mem, h.fe, h.far.imp id fun h => by omega, fun y hy hm hf => ?_⟩
  by_cases hb : y = Ch.zero ∨ 2 ^ (24 - i) ≤ y.b
  · exact h.max y hy hm hb
  · exfalso
    have hb1 : y.b < 2 ^ (24 - i) := Nat.lt_of_not_le fun hle => hb (.inr hle)
    have hb2 : 2 ^ (24 - (i + 1)) ≤ y.b := hf.resolve_left fun e => hb (.inl e)
    obtain ⟨z, hz, rfl⟩ := Chn.new hn hx hai x he y hy hb2 hb1
    have h2 := (drop_rng hn hx (i + 1) (by omega) z hz).2.1
    have h3 : ((unit x (23 - i)).add z).s = x.sz + z.s := rfl
    omega
theorem Chn.step (h : Chn xs m a i t) (hai : a ≤ i) (x : Pcl) (he : xs[i]? = some x) (z : Ch) (hz : Top (fun y => y ∈ all (xs.drop (i + 1)) (24 - (i + 1)) ∧ x.sz + y.s ≤ m) z) :
    Chn xs m a (i + 1) (if wsgt ((unit x (23 - i)).add z) t then (unit x (23 - i)).add z else t) := by
  obtain ⟨hi, _⟩ := List.getElem?_eq_some_iff.1 he
  have hpx := hx x (List.mem_of_getElem? he)
  have hp : 2 ^ (24 - (i + 1)) ≤ 2 ^ (24 - i) := Nat.pow_le_pow_right (by decide) (by omega)
  have e23 : 23 - i = 24 - (i + 1) := by omega
  have hzr := drop_rng hn hx (i + 1) (by omega) z hz.mem.1
  have hnew : (unit x (23 - i)).add z ∈ all (xs.drop i) (24 - i) := (drop_cons hn hx i x he _).2 (.inr ⟨z, hz.mem.1, rfl⟩)
  have hnr := drop_rng hn hx i (by omega) _ hnew
  have hnewA : (unit x (23 - i)).add z ∈ all (xs.drop a) (24 - a) := by
    refine drop_up hn hx (i - a) a (by omega) _ ?_
    rw [show a + (i - a) = i by omega]; exact hnew
  have hb : ((unit x (23 - i)).add z).b = 2 ^ (23 - i) + z.b := rfl
  have hsz : ((unit x (23 - i)).add z).s = x.sz + z.s := rfl
  have hold : ∀ y, y ∈ all (xs.drop a) (24 - a) → y.s ≤ m → (y = Ch.zero ∨ 2 ^ (24 - (i + 1)) ≤ y.b) → ¬ gt y t ∨ ¬ gt y ((unit x (23 - i)).add z) := by
    intro y hy hm hf
    by_cases hb : y = Ch.zero ∨ 2 ^ (24 - i) ≤ y.b
    · exact .inl (h.max y hy hm hb)
    · have hb1 : y.b < 2 ^ (24 - i) := Nat.lt_of_not_le fun hle => hb (.inr hle)
      have hb2 : 2 ^ (24 - (i + 1)) ≤ y.b := hf.resolve_left fun e => hb (.inl e)
      obtain ⟨z', hz', rfl⟩ := Chn.new hn hx hai x he y hy hb2 hb1
      refine .inr ?_
      rw [gt_add]
      exact hz.max z' ⟨hz', hm⟩
  by_cases hg : wsgt ((unit x (23 - i)).add z) t
  · rw [if_pos hg]
    refine ⟨hnewA, hz.mem.2, .inr (by rw [hb, e23]; omega), fun y hy hm hf => ?_⟩
    rcases hold y hy hm hf with h1 | h1
    · refine ngt_trans h1 ?_
      unfold wsgt at hg; unfold gt; omega
    · exact h1
  · rw [if_neg hg]
    have hnt : ¬ gt ((unit x (23 - i)).add z) t := by
      intro hg'
      have hs1 := hpx.s1
      rcases h.far with rfl | hf
      · have h0 : Ch.zero.s = 0 := rfl
        unfold wsgt at hg; unfold gt at hg'; omega
      · unfold wsgt at hg; unfold gt at hg'; omega
    refine ⟨h.mem, h.fe, h.far.imp id fun h => by omega, fun y hy hm hf => ?_⟩
    rcases hold y hy hm hf with h1 | h1
    · exact h1
    · exact ngt_trans h1 hnt
theorem Chn.done (h : Chn xs m a xs.length t) (ha : a ≤ xs.length) : Top (fun y => y ∈ all (xs.drop a) (24 - a) ∧ y.s ≤ m) t :=
  ⟨⟨h.mem, h.fe⟩, fun y hy => h.max y hy.1 hy.2 (by
    by_cases hb : 2 ^ (24 - xs.length) ≤ y.b
    · exact .inr hb
    · have h3 := drop_low hn hx (xs.length - a) a (by omega) y hy.1 (by rw [show a + (xs.length - a) = xs.length by omega]; omega)
      rw [show a + (xs.length - a) = xs.length by omega, List.drop_length] at h3
      exact .inl (by simpa [all] using h3))⟩
/-- The indexes of a new one. -/
theorem idx_new (hai : a ≤ i) (hi : i < xs.length) (x : Pcl) (z : Ch) (hz : z ∈ all (xs.drop (i + 1)) (24 - (i + 1))) : cidx (xs.length - a) (24 - a) a ((unit x (23 - i)).add z).b = i :: cidx (xs.length - (i + 1)) (24 - (i + 1)) (i + 1) z.b := by
  have hzr := (drop_rng hn hx (i + 1) (by omega) z hz).1
  have e23 : 23 - i = 24 - i - 1 := by omega
  have hp := pow_succ' (24 - (i + 1))
  rw [show 24 - (i + 1) + 1 = 24 - i by omega] at hp
  have hb : ((unit x (23 - i)).add z).b = 2 ^ (24 - i - 1) + z.b := by rw [← e23]; rfl
  rw [hb, idx_low (i - a) (xs.length - a) a (24 - a) _ (by omega) (by omega) (by rw [show 24 - a - (i - a) = 24 - i by omega, show 24 - i - 1 = 24 - (i + 1) by omega]; omega)]
  rw [show xs.length - a - (i - a) = (xs.length - (i + 1)) + 1 by omega, show 24 - a - (i - a) = 24 - i by omega, show a + (i - a) = i by omega]
  rw [idx_one (by omega) (by rw [show 24 - i - 1 = 24 - (i + 1) by omega]; exact hzr), show 24 - i - 1 = 24 - (i + 1) by omega]
end
theorem idx_nil (n o k : Nat) : cidx n o k 0 = [] := by
  induction n generalizing o k with
  | zero => rfl
  | succ n ih => unfold cidx; rw [if_neg (by rw [Nat.zero_testBit]; decide), ih]
end Go.Proofs.Ytjhbgciocffihaa
