/- Own words, part 7: slices whose place is known; append of zeros; rows that are spliced. -/
import Derived.Test.YtjhbgciocffihaaK6
set_option linter.unusedVariables false
set_option linter.unusedSimpArgs false
namespace Go.Proofs.Ytjhbgciocffihaa
section
variable {P : Program} {R L : List Part} {l : List (Nat × Value)} {ty : TypeId} {e : Env}
/-- x[lo:hi] of a slice, its address kept: the capacity is not used up. -/
theorem yl_sliceAt {t : TypeId} {x : Operand} {lo hi : Option Operand} {b o : Nat} {n c : Nat} {e : TypeId} {sz : Nat} {L H : Nat} (hx : ev l x = some (.slice (some ⟨b, o, none⟩) n c)) (hu : P.underlying t = some (.slice e)) (hs : (P.info? e).map (·.size) = some sz)
    (hlo : (match lo with | none => some 0 | some o => match ev l o with | some (.int _ j) => if 0 ≤ j then some j.toNat else none | _ => none) = some L)
    (hhi : (match hi with | none => some n | some o => match ev l o with | some (.int _ j) => if 0 ≤ j then some j.toNat else none | _ => none) = some H)
    (h1 : L ≤ H) (h2 : H ≤ c) (hlt : L < c) : Yl P R l (.slice t x lo hi none) ty (.slice (some ⟨b, o + L * sz, none⟩) (H - L) (c - L)) := by
  have := yl_slice (R := R) (ty := ty) hx hu hs hlo hhi h1 h2
  rw [if_neg (by omega)] at this
  simpa only [Option.map_some, add_at] using this
/-- append(x, make([]T, m)...) that must grow. -/
theorem ef_appendZ {α : Type} {E : Enc α} {x y : Operand} {t tn T : TypeId} {b o n c m : Nat} {k kn : IntKind} {xs : List α} {z : Value} {by_ : Nat} {za : α} (hx : ev l x = some (.slice (some ⟨b, o, none⟩) n c)) (hy : ev l y = some (.int k (m : Nat)))
    (ht : P.underlying t = some (.slice T)) (htn : P.underlying tn = some (.int kn)) (hinfo : (P.info? T).map (fun i => (i.zero, i.size, i.bytes)) = some (some z, E.sz, by_)) (hz : z.cells.toList = E.cells za)
    (hn : xs.length = n) (hrow : RowIn (L ++ R) b o (E.all xs)) (hg : c < n + m) (hb : (n + m) * by_ ≤ 140737488355328) (hl2 : n + m ≤ maxLen) :
    Ef P e l (.call ⟨.builtin .append, #[x, y], #[t, tn]⟩) ty L R (fun v' L' => ∃ b' c' cs, v' = .slice (some ⟨b', 0, none⟩) (n + m) c' ∧ n + m ≤ c' ∧ c' ≤ maxLen ∧ cs.size = c' * E.sz ∧ cs.toList.take (n * E.sz) = E.all xs ∧ L' = pt b' (.cells cs T) :: L) := by
  intro a w ha hT dst pos after guard
  obtain ⟨i, hi, hzz⟩ := Option.map_eq_some_iff.1 hinfo
  simp only [Prod.mk.injEq] at hzz
  obtain ⟨hz0, hz1, hz2⟩ := hzz
  have hzs : z.cells.size = E.sz := by rw [← Array.length_toList, hz, E.len]
  have hpos := E.pos
  have hmx : n + m ≤ 9223372036854775807 := by simp only [maxLen] at hl2; omega
  have hw : IntKind.i64.wrap (m : Int) = m := wrap_i64 ⟨by omega, by omega⟩
  have hneg : ¬ ((m : Int) < 0) := by omega
  have hng : ¬ (n + m ≤ c) := by omega
  have h48' : ¬ (281474976710656 < Builtin.nextslicecap (n + m) c * i.bytes) := by have := growslice_fits (bytes := i.bytes) hg (by rw [hz2]; exact hb); omega
  have hm' : m * by_ ≤ 140737488355328 := Nat.le_trans (Nat.mul_le_mul_right _ (by omega)) hb
  have h48i : ¬ (281474976710656 < (m : Int) * (i.bytes : Int)) := by rw [← Int.natCast_mul, hz2]; omega
  have h63 : ¬ (9223372036854775807 < ((n : Int) + (m : Int))) := by omega
  have holds : ∀ j u, (E.all xs)[j]? = some u → w.cell? ((⟨b, o, none⟩ : Addr).add j) = some u := fun j u hj => by rw [add_at]; exact (hrow j u hj).at_ hT.all
  have hfo := run_firstCells_some (P := P) w.drew i.size n ⟨b, o, none⟩ n c (E.all xs) (by rw [E.all_length, hn, hz1]) (by simpa using holds)
  let cs : Array Value := (E.all xs).toArray ++ (if m * i.size = 0 then #[] else Builtin.zeroCells z.cells m) ++ Builtin.zeroCells z.cells (grownCap w (n + m) c T - (n + m))
  have hge := grownCap_ge w (n + m) c T
  have hcm : grownCap w (n + m) c T ≤ maxLen := grownCap_le_maxLen w (n + m) c T hl2
  have hrun : (Builtin.append_ #[t, tn] ty #[.slice (some ⟨b, o, none⟩) n c, .int k (m : Nat)]).run P w = .ok (.slice (some ⟨w.heap.size, 0, none⟩) (n + m) (grownCap w (n + m) c T)) (w.drew.alloc (.cells cs T)) := by
    by_cases hm0 : m * i.size = 0
    · simp [Builtin.append_, run_underlying ht, run_underlying htn, sizeOf, typeInfo, zeroValue, hi, hz0, asInt, asIntOf, hw, hng, hneg, h63, h48', h48i, Question.forced, hfo, newRow, grownCap, cs, hm0]
    · simp [Builtin.append_, run_underlying ht, run_underlying htn, sizeOf, typeInfo, zeroValue, hi, hz0, asInt, asIntOf, hw, hng, hneg, h63, h48', h48i, Question.forced, hfo, newRow, grownCap, cs, hm0]
  refine ⟨.slice (some ⟨w.heap.size, 0, none⟩) (n + m) (grownCap w (n + m) c T), w.drew.alloc (.cells cs T), pt w.heap.size (.cells cs T) :: L, ?_, ⟨w.heap.size, grownCap w (n + m) c T, cs, rfl, hge, hcm, ?_, ?_, rfl⟩, ?_⟩
  · simp only [execOp, resolve, invoke, builtin, Sem.run_bind, Sem.run_pure, Result.andThen_ok, List.map_toArray, List.map_cons, List.map_nil, ha.ev hx, ha.ev hy, hrun]
  · simp only [cs, Array.size_append, List.size_toArray, size_zeroCells, hzs, E.all_length, hn]
    have : (if m * i.size = 0 then (#[] : Array Value) else Builtin.zeroCells z.cells m).size = m * E.sz := by
      split
      · rw [hz1] at *; simp; omega
      · rw [size_zeroCells, hzs]
    rw [this, ← Nat.add_mul, ← Nat.add_mul]; congr 1; omega
  · simp only [cs, Array.toList_append, List.append_assoc]
    rw [← hn, ← E.all_length]; exact List.take_left
  · exact hT.drew.alloc _
theorem Sl.shape {α : Type} {E : Enc α} {T : TypeId} {v : Value} {xs : List α} {x : Part} (h : Sl E T v xs x) : ∃ A c, v = .slice A xs.length c ∧ xs.length ≤ c := by
  rcases h with ⟨rfl, rfl, rfl⟩ | ⟨b, c, cs, rfl, rfl, h1, _⟩
  · exact ⟨none, 0, rfl, Nat.le_refl _⟩
  · exact ⟨_, c, rfl, h1⟩
theorem splice_length {c : List Value} {o : Nat} {s : List Value} (h : o + s.length ≤ c.length) : (splice c o s).length = c.length := by
  simp [splice]; omega
/-- Insertion: the row is spliced from the left to the right .. -/
theorem splice_ins {c : List Value} {i n : Nat} {y : Value} {d : List Value} (hi : i ≤ n) (hd : d.length = n - i) (hc : n + 1 ≤ c.length) : (splice (splice c i [y]) (i + 1) d).take (n + 1) = c.take i ++ [y] ++ d := by
  have e1 : (splice c i [y]).take (i + 1) = c.take i ++ [y] := by
    unfold splice
    rw [List.take_append_of_le_length (by simp; omega), List.take_of_length_le (by simp; omega)]
  have e2 : (c.take i ++ [y] ++ d).length = n + 1 := by simp [hd]; omega
  unfold splice at e1 ⊢
  rw [e1, List.take_append_of_le_length (by rw [e2]; exact Nat.le_refl _), List.take_of_length_le (by rw [e2]; exact Nat.le_refl _)]
/-- .. or from the right to the left. -/
theorem splice_ins2 {c : List Value} {i n : Nat} {y : Value} {d : List Value} (hi : i ≤ n) (hd : d.length = n - i) (hc : n + 1 ≤ c.length) : (splice (splice c (i + 1) d) i [y]).take (n + 1) = c.take i ++ [y] ++ d := by
  have e1 : (splice c (i + 1) d).take i = c.take i := by
    unfold splice
    rw [List.append_assoc, List.take_append_of_le_length (by simp; omega), List.take_take]; congr 1; omega
  have e2 : (splice c (i + 1) d).drop (i + 1) = d ++ c.drop (i + 1 + d.length) := by
    unfold splice
    rw [List.append_assoc, List.drop_append_of_le_length (by simp; omega), List.drop_of_length_le (by simp; omega), List.nil_append]
  have e3 : (c.take i ++ [y] ++ d).length = n + 1 := by simp [hd]; omega
  show (List.take i (splice c (i + 1) d) ++ [y] ++ List.drop (i + 1) (splice c (i + 1) d)).take (n + 1) = _
  rw [e1, e2, ← List.append_assoc, List.take_append_of_le_length (by rw [e3]; exact Nat.le_refl _), List.take_of_length_le (by rw [e3]; exact Nat.le_refl _)]
end
end Go.Proofs.Ytjhbgciocffihaa
