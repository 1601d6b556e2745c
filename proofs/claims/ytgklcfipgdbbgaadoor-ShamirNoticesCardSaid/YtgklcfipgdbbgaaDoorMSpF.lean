/- The shares of a polynomial, and those chosen of them. -/
import Derived.Test.YtgklcfipgdbbgaaDoorMo
namespace Go.Proofs.YtgklcfipgdbbgaaDoor
open Go.RowKit

section
variable (s : Chart.F) (k : List UInt8) (n m : Nat) (h1 : 1 ≤ n) (h2 : n ≤ m) (h3 : m ≤ 64)
include h1 h2 h3
theorem sp_ok : Chart.okS (Chart.raw (Chart.splitS (coefs s k n) m)) = true := Chart.okS_split _ (by omega) h3
theorem sp_join : Chart.val (Chart.splitS (coefs s k n) m) 0 = s := by
  refine Chart.split_join (Chart.good (sp_ok s k n m h1 h2 h3)) (fun t ht => Chart.splitS_mem ht) ?_
  have := coefs_length s k h1
  unfold coefs at this
  rw [this, Chart.splitS_length]
  exact h2
theorem sp_fits : Chart.fits (Chart.splitS (coefs s k n) m) n = true :=
  Chart.split_fits (Chart.good (sp_ok s k n m h1 h2 h3)) (fun t ht => Chart.splitS_mem ht) (by rw [coefs_length s k h1]; exact Nat.le_refl _)
theorem cho_ok (take : List Bool) (hn : n ≤ (choN (Chart.splitS (coefs s k n) m) take m).length) : Chart.okS (Chart.raw (choN (Chart.splitS (coefs s k n) m) take m)) = true := by
  have hs := choN_sub (Chart.splitS (coefs s k n) m) take
  rw [Chart.splitS_length] at hs
  exact Chart.okS_sub (sp_ok s k n m h1 h2 h3) (hs.map _) (by rw [Chart.raw_length]; omega)
omit h1 h2 h3 in
theorem cho_mem (take : List Bool) : ∀ t ∈ choN (Chart.splitS (coefs s k n) m) take m, Chart.ev (coefs s k n) t.1 = t.2 := by
  intro t ht
  have hs := choN_sub (Chart.splitS (coefs s k n) m) take
  rw [Chart.splitS_length] at hs
  exact Chart.splitS_mem (hs.subset ht)
theorem cho_join (take : List Bool) (hn : n ≤ (choN (Chart.splitS (coefs s k n) m) take m).length) : Chart.val (choN (Chart.splitS (coefs s k n) m) take m) 0 = s := by
  refine Chart.split_join (Chart.good (cho_ok s k n m h1 h2 h3 take hn)) (cho_mem s k n m take) ?_
  have := coefs_length s k h1
  unfold coefs at this
  rw [this]
  exact hn
theorem cho_fits (take : List Bool) (hn : n ≤ (choN (Chart.splitS (coefs s k n) m) take m).length) : Chart.fits (choN (Chart.splitS (coefs s k n) m) take m) n = true :=
  Chart.split_fits (Chart.good (cho_ok s k n m h1 h2 h3 take hn)) (cho_mem s k n m take) (by rw [coefs_length s k h1]; exact Nat.le_refl _)
theorem sp_changed (i : Nat) (hi : i < m) (hnm : n < m) (y : Chart.F) : Chart.fits ((Chart.splitS (coefs s k n) m).set i ((Chart.splitS (coefs s k n) m)[i]'(by rw [Chart.splitS_length]; exact hi) |>.1, y)) n = (y == ((Chart.splitS (coefs s k n) m)[i]'(by rw [Chart.splitS_length]; exact hi)).2) := by
  have hg := Chart.good (sp_ok s k n m h1 h2 h3)
  have hlen := Chart.splitS_length (coefs s k n) m
  have hp := Chart.ev_poly (coefs s k n)
  rw [coefs_length s k h1] at hp
  rw [Bool.eq_iff_iff, beq_iff_eq]
  constructor
  · intro h
    exact Chart.fits_changed hg.nodup hp (fun t ht => Chart.splitS_mem ht) (by omega) (by omega) h
  · rintro rfl
    have hset : ∀ (l : Chart.Sh) (hi : i < l.length), l.set i (l[i].1, l[i].2) = l := fun l hi => by
      show l.set i l[i] = l
      exact List.set_getElem_self hi
    rw [hset _ (by omega)]
    exact sp_fits s k n m h1 h2 h3
end
end Go.Proofs.YtgklcfipgdbbgaaDoor
