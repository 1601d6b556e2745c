/- The reference's field (chartroomref03) and group (chartroomref04): sums, products, powers by doubling. -/
import Derived.Test.YtgklcfipgdbbgaaDoorM7
namespace Go.Proofs.YtgklcfipgdbbgaaDoor
open Go.RowKit

theorem rsum3_any (a b : Nat) (ha : a < Chart.Q) (hb : b < Chart.Q) (w : World) :
    Calls Tryd.prog 54 #[.int .i64 a, .int .i64 b] w fun e w' => e = .returned (.int .i64 ((a + b) % Chart.Q : Nat)) ∧ w = w' := by
  have hQ := Q_eq
  obtain ⟨r, hr⟩ : ∃ n, n = (a + b) % Chart.Q := ⟨_, rfl⟩
  have e1 : ((a : Int) + (b : Int)) % 2305843009213688669 = (r : Int) := by rw [hr, hQ]; omega
  obtain ⟨x, hx⟩ : ∃ x : Int, x = (a : Int) + (b : Int) := ⟨_, rfl⟩
  have e2 : IntKind.i64.wrap ((a : Int) + (b : Int)) = x := by rw [wrap_i64_small _ (by omega) (by omega), hx]
  have e3 : x.tmod 2305843009213688669 = (r : Int) := by rw [Int.tmod_eq_emod_of_nonneg (by omega), hx, e1]
  have e4 : IntKind.i64.wrap (r : Int) = (r : Int) := wrap_i64_small _ (by omega) (by rw [hr]; have := Nat.mod_lt (a + b) (show Chart.Q > 0 by rw [hQ]; decide); omega)
  rw [← hr]
  clear hr ha hb e1 hx hQ
  go_enter Tryd.func54, Tryd.ntmps54
  go_wp2_with fail
  go_ret
  exact ⟨rfl, rfl⟩

/-- One round of doubling: the half of b, the double of a, and a added where b is odd. -/
theorem double_step (m c a b : Nat) : ((if b % 2 = 1 then (c + a) % m else c) + (a + a) % m * (b / 2)) % m = (c + a * b) % m := by
  have h1 : ((if b % 2 = 1 then (c + a) % m else c) + (a + a) % m * (b / 2)) % m = ((if b % 2 = 1 then c + a else c) + (a + a) * (b / 2)) % m := by
    rw [Nat.add_mod, Nat.mod_mul_mod, ← Nat.add_mod]
    split
    · rw [Nat.mod_add_mod]
    · rfl
  rw [h1]
  congr 1
  have h2 : a * b = a * (b % 2) + (a + a) * (b / 2) := by
    rw [← Nat.two_mul, Nat.mul_comm 2 a, Nat.mul_assoc, ← Nat.mul_add, Nat.mod_add_div]
  rw [h2]
  split
  · rename_i h; rw [h, Nat.mul_one, Nat.add_assoc]
  · have : b % 2 = 0 := by omega
    rw [this, Nat.mul_zero, Nat.zero_add]

theorem rprod3_any (a b : Nat) (ha : a < Chart.Q) (hb : b < 9223372036854775808) (w : World) :
    Calls Tryd.prog 72 #[.int .i64 a, .int .i64 b] w fun e w' => e = .returned (.int .i64 (a * b % Chart.Q : Nat)) ∧ w = w' := by
  have hQ := Q_eq
  have hlt : ∀ x, x % Chart.Q < Chart.Q := fun x => Nat.mod_lt _ (by decide)
  have Hlt := Lib.hid hlt
  have Ha := Lib.hid ha
  have Hb := Lib.hid hb
  clear hlt ha hb hQ
  go_enter Tryd.func72, Tryd.ntmps72
  go_wp2_with fail
  go_loop [0, 1, 5] (fun x y c => ∃ x' y' c' : Nat, x = .int .i64 x' ∧ y = .int .i64 y' ∧ c = .int .i64 c' ∧ Hid (x' < Chart.Q ∧ c' < Chart.Q ∧ y' < 9223372036854775808 ∧ (c' + x' * y') % Chart.Q = a * b % Chart.Q)) (fun _ y _ => (intOf y).toNat)
  case atStart => exact ⟨a, b, 0, rfl, rfl, rfl, Lib.hid ⟨Ha.out, by decide, Hb.out, by rw [Nat.zero_add]⟩⟩
  case round =>
    obtain ⟨x', y', c', rfl, rfl, rfl, H⟩ := hrel
    obtain ⟨h1, h2, h3, h4⟩ := H.out
    by_cases h0 : y' = 0
    · subst h0
      have Hf := Lib.hid (show c' = a * b % Chart.Q by rw [← h4, Nat.mul_zero, Nat.add_zero, Nat.mod_eq_of_lt h2])
      clear h1 h2 h3 h4
      go_wp2_with fail
      go_ret
      exact ⟨by rw [Hf.out]; rfl, rfl⟩
    · have S := double_step Chart.Q c' x' y'
      have P1 := Lib.hid (rsum3_any c' x' h2 h1)
      have P2 := Lib.hid (rsum3_any x' x' h1 h1)
      have hy0 : (0 : Int) < (y' : Int) := by omega
      have hyq : ((y' / 2 : Nat) : Int) = (y' : Int) / 2 := by omega
      have hdec : y' / 2 < y' := by omega
      have Hdec := Lib.hid hdec
      have Hyq := Lib.hid hyq
      have hy3 : (y' : Int) ≤ 9223372036854775807 := by omega
      by_cases hodd : y' % 2 = 1
      · rw [if_pos hodd] at S
        have e1 : ((y' : Int) % 2 == 1) = true := by rw [beq_iff_eq]; omega
        have HN := Lib.hid (⟨Hlt.out (x' + x'), Hlt.out (c' + x'), (show y' / 2 < 9223372036854775808 by omega), S.trans h4⟩ : (x' + x') % Chart.Q < Chart.Q ∧ (c' + x') % Chart.Q < Chart.Q ∧ y' / 2 < 9223372036854775808 ∧ ((c' + x') % Chart.Q + (x' + x') % Chart.Q * (y' / 2)) % Chart.Q = a * b % Chart.Q)
        generalize (x' + x') % Chart.Q = xx at *
        generalize (c' + x') % Chart.Q = cc at *
        clear h1 h2 h3 h4 S hodd h0 hdec hyq
        go_wp2_with fail
        refine (P1.out _).mono ?_
        rintro e w1 ⟨rfl, rfl⟩
        go_wp2_with fail
        refine (P2.out _).mono ?_
        rintro e w1 ⟨rfl, rfl⟩
        go_wp2_with fail
        go_round
        case rel => exact ⟨xx, y' / 2, cc, rfl, by rw [Hyq.out], rfl, HN⟩
        case measure => have := Hdec.out; have := Hyq.out; simp [intOf]; omega
      · rw [if_neg hodd] at S
        have e1 : ((y' : Int) % 2 == 1) = false := by rw [beq_eq_false_iff_ne]; omega
        have HN := Lib.hid (⟨Hlt.out (x' + x'), h2, (show y' / 2 < 9223372036854775808 by omega), S.trans h4⟩ : (x' + x') % Chart.Q < Chart.Q ∧ c' < Chart.Q ∧ y' / 2 < 9223372036854775808 ∧ (c' + (x' + x') % Chart.Q * (y' / 2)) % Chart.Q = a * b % Chart.Q)
        generalize (x' + x') % Chart.Q = xx at *
        clear h1 h2 h3 h4 S hodd h0 hdec hyq P1
        go_wp2_with fail
        refine (P2.out _).mono ?_
        rintro e w1 ⟨rfl, rfl⟩
        go_wp2_with fail
        go_round
        case rel => exact ⟨xx, y' / 2, c', rfl, by rw [Hyq.out], rfl, HN⟩
        case measure => have := Hdec.out; have := Hyq.out; simp [intOf]; omega

theorem rscalar_any (x : Int) (w : World) : Calls Tryd.prog 53 #[.int .i64 x] w fun e w' => e = .returned (.bool (!outB x)) ∧ w = w' := by
  by_cases h1 : 0 ≤ x
  · by_cases h2 : x < 2305843009213688669
    · have h : outB x = false := outB_of h1 h2
      rw [h]
      go_enter Tryd.func53, Tryd.ntmps53
      go_wp2_with fail
      all_goals
        go_ret
        exact ⟨rfl, rfl⟩
    · have h : outB x = true := by unfold outB; simp; omega
      rw [h]
      go_enter Tryd.func53, Tryd.ntmps53
      go_wp2_with fail
      all_goals
        go_ret
        exact ⟨rfl, rfl⟩
  · have h : outB x = true := by unfold outB; simp; omega
    rw [h]
    go_enter Tryd.func53, Tryd.ntmps53
    go_wp2_with fail
    all_goals
      go_ret
      exact ⟨rfl, rfl⟩

/-- One round of squaring: the half of n, the square of a, and c times a where n is odd. -/
theorem square_step (m c a n : Nat) : ((if n % 2 = 1 then c * a % m else c) * (a * a % m) ^ (n / 2)) % m = c * a ^ n % m := Chart.low_bit m c a n

theorem rpow3_any (a n : Nat) (ha : a < Chart.Q) (hn : n < 9223372036854775808) (w : World) :
    Calls Tryd.prog 71 #[.int .i64 a, .int .i64 n] w fun e w' => e = .returned (.int .i64 (a ^ n % Chart.Q : Nat)) ∧ w = w' := by
  have hlt : ∀ x, x % Chart.Q < Chart.Q := fun x => Nat.mod_lt _ (by decide)
  have Hlt := Lib.hid hlt
  have Ha := Lib.hid ha
  have Hb := Lib.hid hn
  obtain ⟨T, hT⟩ : ∃ T, T = a ^ n % Chart.Q := ⟨_, rfl⟩
  rw [← hT]
  have HT := Lib.hid hT
  clear hlt ha hn hT
  go_enter Tryd.func71, Tryd.ntmps71
  go_wp2_with fail
  go_loop [0, 1, 5] (fun x y c => ∃ x' y' c' : Nat, x = .int .i64 x' ∧ y = .int .i64 y' ∧ c = .int .i64 c' ∧ Hid (x' < Chart.Q ∧ c' < Chart.Q ∧ y' < 9223372036854775808 ∧ c' * x' ^ y' % Chart.Q = T)) (fun _ y _ => (intOf y).toNat)
  case atStart => exact ⟨a, n, 1, rfl, rfl, rfl, Lib.hid ⟨Ha.out, by decide, Hb.out, by rw [Nat.one_mul, HT.out]⟩⟩
  case round =>
    obtain ⟨x', y', c', rfl, rfl, rfl, H⟩ := hrel
    obtain ⟨h1, h2, h3, h4⟩ := H.out
    by_cases h0 : y' = 0
    · subst h0
      have Hf := Lib.hid (show c' = T by rw [← h4, Nat.pow_zero, Nat.mul_one, Nat.mod_eq_of_lt h2])
      clear h1 h2 h3 h4
      go_wp2_with fail
      go_ret
      exact ⟨by rw [Hf.out]; rfl, rfl⟩
    · have S := square_step Chart.Q c' x' y'
      have P1 := Lib.hid (rprod3_any c' x' h2 (by rw [Q_eq] at h1; omega))
      have P2 := Lib.hid (rprod3_any x' x' h1 (by rw [Q_eq] at h1; omega))
      have hy0 : (0 : Int) < (y' : Int) := by omega
      have hyq : ((y' / 2 : Nat) : Int) = (y' : Int) / 2 := by omega
      have hdec : y' / 2 < y' := by omega
      have Hdec := Lib.hid hdec
      have Hyq := Lib.hid hyq
      have hy3 : (y' : Int) ≤ 9223372036854775807 := by omega
      by_cases hodd : y' % 2 = 1
      · rw [if_pos hodd] at S
        have e1 : ((y' : Int) % 2 == 1) = true := by rw [beq_iff_eq]; omega
        have HN := Lib.hid (⟨Hlt.out (x' * x'), Hlt.out (c' * x'), (show y' / 2 < 9223372036854775808 by omega), S.trans h4⟩ : x' * x' % Chart.Q < Chart.Q ∧ c' * x' % Chart.Q < Chart.Q ∧ y' / 2 < 9223372036854775808 ∧ (c' * x' % Chart.Q) * (x' * x' % Chart.Q) ^ (y' / 2) % Chart.Q = T)
        generalize x' * x' % Chart.Q = xx at *
        generalize c' * x' % Chart.Q = cc at *
        clear h1 h2 h3 h4 S hodd h0 hdec hyq
        go_wp2_with fail
        refine (P1.out _).mono ?_
        rintro e w1 ⟨rfl, rfl⟩
        go_wp2_with fail
        refine (P2.out _).mono ?_
        rintro e w1 ⟨rfl, rfl⟩
        go_wp2_with fail
        go_round
        case rel => exact ⟨xx, y' / 2, cc, rfl, by rw [Hyq.out], rfl, HN⟩
        case measure => have := Hdec.out; have := Hyq.out; simp [intOf]; omega
      · rw [if_neg hodd] at S
        have e1 : ((y' : Int) % 2 == 1) = false := by rw [beq_eq_false_iff_ne]; omega
        have HN := Lib.hid (⟨Hlt.out (x' * x'), h2, (show y' / 2 < 9223372036854775808 by omega), S.trans h4⟩ : x' * x' % Chart.Q < Chart.Q ∧ c' < Chart.Q ∧ y' / 2 < 9223372036854775808 ∧ c' * (x' * x' % Chart.Q) ^ (y' / 2) % Chart.Q = T)
        generalize x' * x' % Chart.Q = xx at *
        clear h1 h2 h3 h4 S hodd h0 hdec hyq P1
        go_wp2_with fail
        refine (P2.out _).mono ?_
        rintro e w1 ⟨rfl, rfl⟩
        go_wp2_with fail
        go_round
        case rel => exact ⟨xx, y' / 2, c', rfl, by rw [Hyq.out], rfl, HN⟩
        case measure => have := Hdec.out; have := Hyq.out; simp [intOf]; omega

theorem rinv_ok (a : Nat) (h0 : 0 < a) (ha : a < Chart.Q) (w : World) :
    Calls Tryd.prog 51 #[.int .i64 a] w fun e w' => e = two ((a ^ (Chart.Q - 2) % Chart.Q : Nat) : Int) 0 ∧ w = w' := by
  have S1 := rscalar_any (a : Int)
  rw [outB_nat ha] at S1
  have b0 : ((a : Int) == 0) = false := beq_eq_false_iff_ne.2 (by omega)
  have hQ2 : Chart.Q - 2 = 2305843009213688667 := rfl
  have P := Lib.hid (rpow3_any a (Chart.Q - 2) ha (by rw [hQ2]; decide))
  replace S1 := Lib.hid S1
  generalize a ^ (Chart.Q - 2) % Chart.Q = r at *
  rw [hQ2] at P
  clear ha hQ2 h0
  go_enter Tryd.func51, Tryd.ntmps51
  go_wp2_with fail
  refine (S1.out _).mono ?_
  rintro e w1 ⟨rfl, rfl⟩
  go_wp2_with fail
  refine (P.out _).mono ?_
  rintro e w1 ⟨rfl, rfl⟩
  go_wp2_with fail
  go_ret2
  exact ⟨rfl, rfl⟩
end Go.Proofs.YtgklcfipgdbbgaaDoor
