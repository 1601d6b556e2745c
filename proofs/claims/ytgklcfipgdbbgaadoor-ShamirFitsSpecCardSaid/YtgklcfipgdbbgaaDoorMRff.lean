/- The reference's field on elements of the field. -/
import Derived.Test.YtgklcfipgdbbgaaDoorMRf3m
import Derived.Test.YtgklcfipgdbbgaaDoorM7
namespace Go.Proofs.YtgklcfipgdbbgaaDoor
open Go.RowKit

theorem rsum_le (a b : Nat) (ha : a < Chart.Q) (hb : b ≤ Chart.Q) (w : World) :
    Calls Tryd.prog 54 #[.int .i64 a, .int .i64 b] w fun e w' => e = .returned (.int .i64 ((a + b) % Chart.Q : Nat)) ∧ w = w' := by
  have hQ := Q_eq
  obtain ⟨r, hr⟩ : ∃ n, n = (a + b) % Chart.Q := ⟨_, rfl⟩
  have e1 : ((a : Int) + (b : Int)) % 2305843009213688669 = (r : Int) := by rw [hr, hQ]; omega
  obtain ⟨x, hx⟩ : ∃ x : Int, x = (a : Int) + (b : Int) := ⟨_, rfl⟩
  have e2 : IntKind.i64.wrap ((a : Int) + (b : Int)) = x := by rw [wrap_i64_small _ (by omega) (by omega), hx]
  have e3 : x.tmod 2305843009213688669 = (r : Int) := by rw [Int.tmod_eq_emod_of_nonneg (by omega), hx, e1]
  have e4 : IntKind.i64.wrap (r : Int) = (r : Int) := wrap_i64_small _ (by omega) (by rw [hr]; have := Nat.mod_lt (a + b) (show Chart.Q > 0 by rw [hQ]; decide); omega)
  rw [← hr]
  clear hr ha hb e1 hx hQ
  go_enter Tryd.func54, Tryd.ntmps54
  go_wp2_with fail
  go_ret
  exact ⟨rfl, rfl⟩
theorem rmulF (a b : Chart.F) (w : World) : Calls Tryd.prog 52 #[fv a, fv b] w fun e w' => e = two ((a * b).val : Nat) 0 ∧ w = w' := rmul_ok a.val b.val a.isLt b.isLt w
theorem raddF (a b : Chart.F) (w : World) : Calls Tryd.prog 36 #[fv a, fv b] w fun e w' => e = two ((a + b).val : Nat) 0 ∧ w = w' := by
  have S1 := rscalar_any (a.val : Int)
  have S2 := rscalar_any (b.val : Int)
  rw [outB_nat a.isLt] at S1
  rw [outB_nat b.isLt] at S2
  have P : ∀ w, Calls Tryd.prog 54 #[fv a, fv b] w fun e w' => e = .returned (.int .i64 ((a + b).val : Nat)) ∧ w = w' := rsum_le a.val b.val a.isLt (Nat.le_of_lt b.isLt)
  generalize a + b = c at *
  replace P := Lib.hid P
  replace S1 := Lib.hid S1
  replace S2 := Lib.hid S2
  go_enter Tryd.func36, Tryd.ntmps36
  go_wp2_with fail
  refine (S1.out _).mono ?_
  rintro e w1 ⟨rfl, rfl⟩
  go_wp2_with fail
  refine (S2.out _).mono ?_
  rintro e w1 ⟨rfl, rfl⟩
  go_wp2_with fail
  refine (P.out _).mono ?_
  rintro e w1 ⟨rfl, rfl⟩
  go_wp2_with fail
  go_ret2
  exact ⟨rfl, rfl⟩
theorem rsubF (a b : Chart.F) (w : World) : Calls Tryd.prog 50 #[fv a, fv b] w fun e w' => e = two ((a - b).val : Nat) 0 ∧ w = w' := by
  have S1 := rscalar_any (a.val : Int)
  have S2 := rscalar_any (b.val : Int)
  rw [outB_nat a.isLt] at S1
  rw [outB_nat b.isLt] at S2
  have P := rsum_le a.val (Chart.Q - b.val) a.isLt (Nat.sub_le _ _)
  rw [← sub_val] at P
  generalize a - b = c at *
  have hb : b.val < 2305843009213688669 := b.isLt
  obtain ⟨d, hd⟩ : ∃ d : Nat, d = Chart.Q - b.val := ⟨_, rfl⟩
  rw [← hd] at P
  have hd' : d = 2305843009213688669 - b.val := hd
  have e1 : IntKind.i64.wrap (2305843009213688669 - (b.val : Int)) = (d : Int) := by rw [wrap_i64_small _ (by omega) (by omega)]; omega
  clear hd hd' hb
  replace P := Lib.hid P
  replace S1 := Lib.hid S1
  replace S2 := Lib.hid S2
  go_enter Tryd.func50, Tryd.ntmps50
  go_wp2_with fail
  refine (S1.out _).mono ?_
  rintro e w1 ⟨rfl, rfl⟩
  go_wp2_with fail
  refine (S2.out _).mono ?_
  rintro e w1 ⟨rfl, rfl⟩
  go_wp2_with fail
  refine (P.out _).mono ?_
  rintro e w1 ⟨rfl, rfl⟩
  go_wp2_with fail
  go_ret2
  exact ⟨rfl, rfl⟩
theorem rinv_zero (w : World) : Calls Tryd.prog 51 #[.int .i64 0] w fun e w' => e = two 0 30 ∧ w = w' := by
  have S1 := Lib.hid (rscalar_any 0)
  rw [show outB 0 = false from rfl] at S1
  go_enter Tryd.func51, Tryd.ntmps51
  go_wp2_with fail
  refine (S1.out _).mono ?_
  rintro e w1 ⟨rfl, rfl⟩
  go_wp2_with fail
  go_ret2
  exact ⟨rfl, rfl⟩
theorem rinvF (a : Chart.F) (w : World) : Calls Tryd.prog 51 #[fv a] w fun e w' => (∃ z, e = two ((Chart.inv a).val : Nat) z) ∧ w = w' := by
  by_cases h : a.val = 0
  · have h1 : (Chart.inv a).val = 0 := by rw [inv_val]; exact finv_of_zero _ h
    rw [h1, fv, h]
    refine (rinv_zero w).mono ?_
    rintro e w' ⟨rfl, hb⟩
    exact ⟨⟨30, rfl⟩, hb⟩
  · rw [inv_pow]
    refine (rinv_ok a.val (Nat.pos_of_ne_zero h) a.isLt w).mono ?_
    rintro e w' ⟨rfl, hb⟩
    exact ⟨⟨0, rfl⟩, hb⟩
end Go.Proofs.YtgklcfipgdbbgaaDoor
