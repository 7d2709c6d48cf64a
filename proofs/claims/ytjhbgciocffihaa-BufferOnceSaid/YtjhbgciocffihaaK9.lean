/- Own words, part 9: a cell of an own slice's element is stored; a part of a slice that is read. -/
import Derived.Test.YtjhbgciocffihaaK8
set_option linter.unusedVariables false
set_option linter.unusedSimpArgs false
namespace Go.Proofs.Ytjhbgciocffihaa
section
variable {P : Program} {R L : List Part} {l : List (Nat × Value)} {ty : TypeId} {e : Env}
theorem Enc.all_set {α : Type} {E : Enc α} {xs : List α} {j : Nat} {a a' : α} {f : Nat} {u : Value} (hj : xs[j]? = some a) (hf : f < E.sz) (ha : E.cells a' = (E.cells a).set f u) : E.all (xs.set j a') = (E.all xs).set (j * E.sz + f) u := by
  have hpos := E.pos
  apply List.ext_getElem?
  intro m
  have hjl := (List.getElem?_eq_some_iff.1 hj).1
  by_cases hm : m < xs.length * E.sz
  · have hq : m / E.sz < xs.length := Nat.div_lt_of_lt_mul (by rw [Nat.mul_comm]; exact hm)
    have hr := Nat.mod_lt m hpos
    have hd : m / E.sz * E.sz + m % E.sz = m := by rw [Nat.mul_comm]; exact Nat.div_add_mod m E.sz
    rw [← hd]
    by_cases hjq : j = m / E.sz
    · have h1 : (xs.set j a')[m / E.sz]? = some a' := by rw [← hjq]; simp [hjl]
      rw [E.all_get h1 hr, ha, List.getElem?_set, List.getElem?_set]
      have h2 : xs[m / E.sz]? = some a := by rw [← hjq]; exact hj
      have hin : j * E.sz + f < (E.all xs).length := by
        rw [E.all_length]
        have := Nat.mul_le_mul_right E.sz (show j + 1 ≤ xs.length by omega)
        rw [Nat.add_mul, Nat.one_mul] at this; omega
      by_cases hfr : f = m % E.sz
      · rw [if_pos hfr, if_pos (by rw [E.len]; exact hf), if_pos (by rw [← hjq, ← hfr]), if_pos hin]
      · rw [if_neg hfr, if_neg (by rw [← hjq]; omega), E.all_get h2 hr]
    · have h1 : (xs.set j a')[m / E.sz]? = xs[m / E.sz]? := by rw [List.getElem?_set, if_neg hjq]
      have h2 : xs[m / E.sz]? = some xs[m / E.sz] := List.getElem?_eq_getElem hq
      rw [E.all_get (h1.trans h2) hr, List.getElem?_set, if_neg, E.all_get h2 hr]
      intro he
      apply hjq
      have h3 : (j * E.sz + f) / E.sz = (m / E.sz * E.sz + m % E.sz) / E.sz := by rw [he]
      rw [Nat.mul_comm j, Nat.mul_comm (m / E.sz), Nat.mul_add_div hpos, Nat.mul_add_div hpos, Nat.div_eq_of_lt hf, Nat.div_eq_of_lt hr] at h3
      omega
  · rw [List.getElem?_eq_none (by rw [E.all_length, List.length_set]; omega), List.getElem?_eq_none (by rw [List.length_set, E.all_length]; omega)]
/-- One cell of an element of an own slice is stored. -/
theorem ef_storeEl {α : Type} {E : Enc α} {t T : TypeId} {x y : Operand} {v : Value} {xs : List α} {X : Part} {j f : Nat} {a a' : α} {u : Value} (hx : ev l x = some (.pointer (some ⟨blk v, offs v + j * E.sz + f, none⟩))) (hy : ev l y = some u)
    (hs : (P.info? t).map (·.size) = some 1) (hu : u.oneCell' = true) (hS : Sl E T v xs X) (hj : xs[j]? = some a) (hf : f < E.sz) (ha : E.cells a' = (E.cells a).set f u) :
    EfS P e l (.store t x y) ty (X :: L) R (fun L' => ∃ X', Sl E T v (xs.set j a') X' ∧ L' = X' :: L) := by
  have hjl := (List.getElem?_eq_some_iff.1 hj).1
  rcases hS with ⟨_, rfl, _⟩ | ⟨b, c, cs, rfl, rfl, h1, h2, h3, h4⟩
  · simp at hjl
  · have hin : j * E.sz + f < xs.length * E.sz := by
      have := Nat.mul_le_mul_right E.sz (show j + 1 ≤ xs.length by omega)
      rw [Nat.add_mul, Nat.one_mul] at this; omega
    have hin2 : xs.length * E.sz ≤ c * E.sz := Nat.mul_le_mul_right _ h1
    intro w0 w ha' hT dst pos after guard
    have hblt : Nat.blt (0 + j * E.sz + f) cs.toList.length = true := by
      rw [Nat.blt_eq, Array.length_toList]; omega
    obtain ⟨w', L', hr, rfl, hT'⟩ := ef_store (P := P) (e := e) (l := l) (ty := ty) (L := L) (R := R) (T := T) hx hy hs hu hblt w0 w ha' hT dst pos after guard
    refine ⟨w', _, hr, ⟨_, .inr ⟨b, c, _, by rw [List.length_set], rfl, by rw [List.length_set]; exact h1, h2, by rw [Array.size_setIfInBounds]; exact h3, ?_⟩, rfl⟩, hT'⟩
    rw [List.length_set, E.all_set hj hf ha, ← h4, Array.toList_setIfInBounds, show offs (Value.slice (some ⟨b, 0, none⟩) xs.length c) = 0 from rfl, Nat.zero_add, List.take_set]
theorem Els.sub {α : Type} {E : Enc α} {A : Option Addr} {n c : Nat} {xs : List α} (h : Els E R (.slice A n c) xs) {lo hi : Nat} (hl : lo ≤ hi) (hh : hi ≤ xs.length) (hc : xs.length ≤ c) :
    Els E R (.slice (if c = lo then A else A.map (·.add (lo * E.sz))) (hi - lo) (c - lo)) ((xs.drop lo).take (hi - lo)) := by
  obtain ⟨A', c', he, hA, hm⟩ := h.shape
  simp only [Value.slice.injEq] at he
  obtain ⟨rfl, rfl, rfl⟩ := he
  have hlen : ((xs.drop lo).take (hi - lo)).length = hi - lo := by simp; omega
  refine ⟨⟨_, _, by rw [hlen], fun h0 => ?_, by rw [hlen]; omega⟩, fun j x hj => ?_⟩
  · rw [hlen] at h0
    obtain ⟨b, o, rfl⟩ := hA (by omega)
    rw [if_neg (by omega)]
    exact ⟨b, o + lo * E.sz, by rw [Option.map_some, add_at]⟩
  · have hjl := (List.getElem?_eq_some_iff.1 hj).1
    rw [hlen] at hjl
    obtain ⟨b, o, rfl⟩ := hA (by omega)
    rw [List.getElem?_take, if_pos hjl, List.getElem?_drop] at hj
    have h1 := h.at_ (lo + j) x hj
    rw [if_neg (by omega)]
    simp only [Option.map_some, add_at, blk, offs] at h1 ⊢
    rw [Nat.add_assoc, ← Nat.add_mul]; exact h1
end
end Go.Proofs.Ytjhbgciocffihaa
