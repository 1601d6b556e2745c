/- One share more: what hangs on its value. Plain. -/
import Derived.Test.YtgklcfipgdbbgaaDoorM24
namespace Chart

theorem hide_split {l : Rs} {a : Int} (h : okS (l ++ [(a, 0)]) = true) : ∃ (m : Sh) (p : F), l = raw m ∧ a = (p.val : Int) ∧ ∀ y : F, okS (raw (m ++ [(p, y)])) = true := by
  obtain ⟨L, hL, -⟩ := okS_raw h
  have hne : L ≠ [] := by
    intro h0
    rw [h0] at hL
    simp [raw] at hL
  have e1 : L = L.dropLast ++ [L.getLast hne] := (List.dropLast_concat_getLast hne).symm
  rw [e1, raw_append] at hL
  have e2 := List.append_inj' hL rfl
  have e3 : (a, (0 : Int)) = rawOf (L.getLast hne) := by
    have h2 : [(a, (0 : Int))] = [rawOf (L.getLast hne)] := e2.2
    exact (List.cons.inj h2).1
  refine ⟨L.dropLast, (L.getLast hne).1, e2.1, ?_, fun y => ?_⟩
  · exact congrArg Prod.fst e3
  · have e4 : raw (L.dropLast ++ [((L.getLast hne).1, y)]) = l ++ [(a, (y.val : Int))] := by
      rw [raw_append, ← e2.1]
      have e5 : a = ((L.getLast hne).1.val : Int) := congrArg Prod.fst e3
      rw [e5]
      rfl
    rw [e4]
    refine okS_last (Int.natCast_nonneg _) ?_ h
    have := y.isLt
    exact Int.ofNat_lt.2 this
theorem beq_val (a b : F) : (((a.val : Int) == (b.val : Int)) = (a == b)) := by
  rw [Bool.eq_iff_iff, beq_iff_eq, beq_iff_eq]
  exact ⟨fun h => Fin.ext (by omega), fun h => by rw [h]⟩
theorem hide_law {m : Sh} {p : F} (hok : ∀ y : F, okS (raw (m ++ [(p, y)])) = true) (s : F) :
    val (m ++ [(p, 1)]) 0 - val (m ++ [(p, 0)]) 0 ≠ 0 ∧
    val (m ++ [(p, (s - val (m ++ [(p, 0)]) 0) * inv (val (m ++ [(p, 1)]) 0 - val (m ++ [(p, 0)]) 0))]) 0 = s ∧
    ∀ o : F, (val (m ++ [(p, o)]) 0 == s) = (o == (s - val (m ++ [(p, 0)]) 0) * inv (val (m ++ [(p, 1)]) 0 - val (m ++ [(p, 0)]) 0)) := by
  obtain ⟨b, hb, hv⟩ := val_last (good (hok 0))
  have e1 : val (m ++ [(p, 1)]) 0 - val (m ++ [(p, 0)]) 0 = b := by rw [hv 1]; grind
  have hi := mul_inv hb
  rw [e1]
  generalize hz : val (m ++ [(p, 0)]) 0 = z at *
  refine ⟨hb, ?_, fun o => ?_⟩
  · rw [hv]; grind
  · rw [hv o, Bool.eq_iff_iff, beq_iff_eq, beq_iff_eq]
    constructor
    · intro h
      have h2 : o * b = s - z := by grind
      have h3 : o * b * inv b = (s - z) * inv b := by rw [h2]
      grind
    · intro h
      rw [h]
      grind
end Chart
