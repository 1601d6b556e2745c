/- chartroomref03.Eval. -/
import Derived.Test.YtgklcfipgdbbgaaGreatDoorM28
import Derived.Test.YtgklcfipgdbbgaaGreatDoorM7
namespace Go.Proofs.YtgklcfipgdbbgaaGreatDoor
open Go.RowKit

theorem rprodF (a b : Chart.F) (w : World) : Calls Tryz.prog 43 #[fv a, fv b] w fun e w' => e = .returned (.int .i64 ((a * b).val : Nat)) ∧ w = w' :=
  rprod3_any a.val b.val a.isLt (Nat.lt_trans b.isLt (by rw [Q_eq]; decide)) w
theorem rsumF (a b : Chart.F) (w : World) : Calls Tryz.prog 42 #[fv a, fv b] w fun e w' => e = .returned (.int .i64 ((a + b).val : Nat)) ∧ w = w' := rsum_le a.val b.val a.isLt (Nat.le_of_lt b.isLt) w

set_option maxRecDepth 20000 in
theorem reval_any (cs : List Chart.F) (x : Chart.F) (g off cap : Nat) (hm : cs.length ≤ 1000) (w : World) (hc : IntsAt w g off (nums cs)) :
    Calls Tryz.prog 21 #[.slice (some ⟨g, off, none⟩) cs.length cap, fv x] w fun e w' => e = two ((Chart.ev cs x).val : Nat) 0 ∧ w = w' := by
  obtain ⟨n, hn⟩ : ∃ n, n = cs.length := ⟨_, rfl⟩
  rw [← hn] at hm ⊢
  have S1 := rscalar_any (x.val : Int)
  rw [outB_nat x.isLt] at S1
  replace S1 := Lib.hid S1
  have H := Lib.hid (And.intro hn hc)
  clear hn hc
  go_enter Tryz.func21, Tryz.ntmps21
  go_wp2_with fail
  refine (S1.out _).mono ?_
  rintro e w1 ⟨rfl, rfl⟩
  go_wp2_with fail
  go_loopw [6, 7, 8] (fun y p i wr => ∃ t : Nat, t ≤ n ∧ i = .int .i64 t ∧ y = fv (Chart.ev (cs.take t) x) ∧ p = fv (Chart.pw x t) ∧ w = wr) (fun _ _ i _ => n - (intOf i).toNat)
  case atStart => exact ⟨0, Nat.zero_le _, rfl, rfl, rfl, rfl⟩
  case round =>
    obtain ⟨t, ht, rfl, rfl, rfl, rfl⟩ := hrel
    by_cases hlt : t < n
    · have htc : t < cs.length := by have := H.out.1; omega
      have hcell := H.out.2 t (by rw [nums_length]; exact htc)
      rw [nums_at] at hcell
      have he := Chart.ev_take cs x htc
      generalize cs[t] = c at *
      have k0 : w.cell? ⟨g, off + t, none⟩ = some (fv c) := hcell
      have S2 := rscalar_any (c.val : Int)
      rw [outB_nat c.isLt] at S2
      have P1 := rprodF c (Chart.pw x t)
      have P2 := rsumF (Chart.ev (cs.take t) x) (c * Chart.pw x t)
      have P3 := rprodF (Chart.pw x t) x
      have hp : Chart.pw x (t + 1) = Chart.pw x t * x := rfl
      rw [← he] at P2
      rw [← hp] at P3
      generalize c * Chart.pw x t = q at *
      replace S2 := Lib.hid S2
      replace P1 := Lib.hid P1
      replace P2 := Lib.hid P2
      replace P3 := Lib.hid P3
      have htn : (t : Int) < (n : Int) := by omega
      clear hcell he hp
      go_wp2_with fail
      refine (S2.out _).mono ?_
      rintro e w1 ⟨rfl, rfl⟩
      go_wp2_with fail
      refine (P1.out _).mono ?_
      rintro e w1 ⟨rfl, rfl⟩
      go_wp2_with fail
      refine (P2.out _).mono ?_
      rintro e w1 ⟨rfl, rfl⟩
      go_wp2_with fail
      refine (P3.out _).mono ?_
      rintro e w1 ⟨rfl, rfl⟩
      go_wp2_with fail
      go_roundw
      case rel => exact ⟨t + 1, by omega, by go_num, rfl, rfl, by trivial⟩
      case measure => simp [intOf] <;> omega
    · obtain rfl : t = n := by omega
      have he : cs.take t = cs := List.take_of_length_le (by have := H.out.1; omega)
      rw [he]
      go_wp2_with fail
      go_ret2
      exact ⟨rfl, by trivial⟩
end Go.Proofs.YtgklcfipgdbbgaaGreatDoor
