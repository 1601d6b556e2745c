/- chartroomref03.Mul. -/
import Derived.Test.YtgklcfipgdbbgaaDoorMRf3
namespace Go.Proofs.YtgklcfipgdbbgaaDoor
open Go.RowKit

theorem rmul_ok (a b : Nat) (ha : a < Chart.Q) (hb : b < Chart.Q) (w : World) :
    Calls Tryd.prog 52 #[.int .i64 a, .int .i64 b] w fun e w' => e = two ((a * b % Chart.Q : Nat) : Int) 0 ∧ w = w' := by
  have S1 := rscalar_any (a : Int)
  have S2 := rscalar_any (b : Int)
  rw [outB_nat ha] at S1
  rw [outB_nat hb] at S2
  have P := Lib.hid (rprod3_any a b ha (by rw [Q_eq] at hb; omega))
  replace S1 := Lib.hid S1
  replace S2 := Lib.hid S2
  generalize a * b % Chart.Q = r at *
  clear ha hb
  go_enter Tryd.func52, Tryd.ntmps52
  go_wp2_with fail
  refine (S1.out _).mono ?_
  rintro e w1 ⟨rfl, rfl⟩
  go_wp2_with fail
  refine (S2.out _).mono ?_
  rintro e w1 ⟨rfl, rfl⟩
  go_wp2_with fail
  refine (P.out _).mono ?_
  rintro e w1 ⟨rfl, rfl⟩
  go_wp2_with fail
  go_ret2
  exact ⟨rfl, rfl⟩
end Go.Proofs.YtgklcfipgdbbgaaDoor
