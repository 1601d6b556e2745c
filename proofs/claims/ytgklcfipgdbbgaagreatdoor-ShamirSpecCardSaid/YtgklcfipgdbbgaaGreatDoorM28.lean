/- The reference's field (chartroomref03) and group (chartroomref04): sums, products, powers by doubling. -/
import Derived.Test.YtgklcfipgdbbgaaGreatDoorM7
import Derived.Test.YtgklcfipgdbbgaaGreatDoorM14
import Derived.Test.YtgklcfipgdbbgaaGreatDoorM23
namespace Go.Proofs.YtgklcfipgdbbgaaGreatDoor
open Go.RowKit

theorem rsum3_any (a b : Nat) (ha : a < Chart.Q) (hb : b < Chart.Q) (w : World) :
    Calls Tryz.prog 42 #[.int .i64 a, .int .i64 b] w fun e w' => e = .returned (.int .i64 ((a + b) % Chart.Q : Nat)) ∧ w = w' := by
  have hQ := Q_eq
  obtain ⟨r, hr⟩ : ∃ n, n = (a + b) % Chart.Q := ⟨_, rfl⟩
  have e1 : ((a : Int) + (b : Int)) % 2305843009213688669 = (r : Int) := by rw [hr, hQ]; omega
  obtain ⟨x, hx⟩ : ∃ x : Int, x = (a : Int) + (b : Int) := ⟨_, rfl⟩
  have e2 : IntKind.i64.wrap ((a : Int) + (b : Int)) = x := by rw [wrap_i64_small _ (by omega) (by omega), hx]
  have e3 : x.tmod 2305843009213688669 = (r : Int) := by rw [Int.tmod_eq_emod_of_nonneg (by omega), hx, e1]
  have e4 : IntKind.i64.wrap (r : Int) = (r : Int) := wrap_i64_small _ (by omega) (by rw [hr]; have := Nat.mod_lt (a + b) (show Chart.Q > 0 by rw [hQ]; decide); omega)
  rw [← hr]
  clear hr ha hb e1 hx hQ
  go_enter Tryz.func42, Tryz.ntmps42
  go_wp2_with fail
  go_ret
  exact ⟨rfl, rfl⟩

/-- One round of doubling: the half of b, the double of a, and a added where b is odd. -/
theorem double_step (m c a b : Nat) : ((if b % 2 = 1 then (c + a) % m else c) + (a + a) % m * (b / 2)) % m = (c + a * b) % m := by
  have h1 : ((if b % 2 = 1 then (c + a) % m else c) + (a + a) % m * (b / 2)) % m = ((if b % 2 = 1 then c + a else c) + (a + a) * (b / 2)) % m := by
    rw [Nat.add_mod, Nat.mod_mul_mod, ← Nat.add_mod]
    split
    · rw [Nat.mod_add_mod]
    · rfl
  rw [h1]
  congr 1
  have h2 : a * b = a * (b % 2) + (a + a) * (b / 2) := by
    rw [← Nat.two_mul, Nat.mul_comm 2 a, Nat.mul_assoc, ← Nat.mul_add, Nat.mod_add_div]
  rw [h2]
  split
  · rename_i h; rw [h, Nat.mul_one, Nat.add_assoc]
  · have : b % 2 = 0 := by omega
    rw [this, Nat.mul_zero, Nat.zero_add]

theorem rprod3_any (a b : Nat) (ha : a < Chart.Q) (hb : b < 9223372036854775808) (w : World) :
    Calls Tryz.prog 43 #[.int .i64 a, .int .i64 b] w fun e w' => e = .returned (.int .i64 (a * b % Chart.Q : Nat)) ∧ w = w' := by
  have hQ := Q_eq
  have hlt : ∀ x, x % Chart.Q < Chart.Q := fun x => Nat.mod_lt _ (by decide)
  have Hlt := Lib.hid hlt
  have Ha := Lib.hid ha
  have Hb := Lib.hid hb
  clear hlt ha hb hQ
  go_enter Tryz.func43, Tryz.ntmps43
  go_wp2_with fail
  go_loop [0, 1, 5] (fun x y c => ∃ x' y' c' : Nat, x = .int .i64 x' ∧ y = .int .i64 y' ∧ c = .int .i64 c' ∧ Hid (x' < Chart.Q ∧ c' < Chart.Q ∧ y' < 9223372036854775808 ∧ (c' + x' * y') % Chart.Q = a * b % Chart.Q)) (fun _ y _ => (intOf y).toNat)
  case atStart => exact ⟨a, b, 0, rfl, rfl, rfl, Lib.hid ⟨Ha.out, by decide, Hb.out, by rw [Nat.zero_add]⟩⟩
  case round =>
    obtain ⟨x', y', c', rfl, rfl, rfl, H⟩ := hrel
    obtain ⟨h1, h2, h3, h4⟩ := H.out
    by_cases h0 : y' = 0
    · subst h0
      have Hf := Lib.hid (show c' = a * b % Chart.Q by rw [← h4, Nat.mul_zero, Nat.add_zero, Nat.mod_eq_of_lt h2])
      clear h1 h2 h3 h4
      go_wp2_with fail
      go_ret
      exact ⟨by rw [Hf.out]; rfl, rfl⟩
    · have S := double_step Chart.Q c' x' y'
      have P1 := Lib.hid (rsum3_any c' x' h2 h1)
      have P2 := Lib.hid (rsum3_any x' x' h1 h1)
      have hy0 : (0 : Int) < (y' : Int) := by omega
      have hyq : ((y' / 2 : Nat) : Int) = (y' : Int) / 2 := by omega
      have hdec : y' / 2 < y' := by omega
      have Hdec := Lib.hid hdec
      have Hyq := Lib.hid hyq
      have hy3 : (y' : Int) ≤ 9223372036854775807 := by omega
      by_cases hodd : y' % 2 = 1
      · rw [if_pos hodd] at S
        have e1 : ((y' : Int) % 2 == 1) = true := by rw [beq_iff_eq]; omega
        have HN := Lib.hid (⟨Hlt.out (x' + x'), Hlt.out (c' + x'), (show y' / 2 < 9223372036854775808 by omega), S.trans h4⟩ : (x' + x') % Chart.Q < Chart.Q ∧ (c' + x') % Chart.Q < Chart.Q ∧ y' / 2 < 9223372036854775808 ∧ ((c' + x') % Chart.Q + (x' + x') % Chart.Q * (y' / 2)) % Chart.Q = a * b % Chart.Q)
        generalize (x' + x') % Chart.Q = xx at *
        generalize (c' + x') % Chart.Q = cc at *
        clear h1 h2 h3 h4 S hodd h0 hdec hyq
        go_wp2_with fail
        refine (P1.out _).mono ?_
        rintro e w1 ⟨rfl, rfl⟩
        go_wp2_with fail
        refine (P2.out _).mono ?_
        rintro e w1 ⟨rfl, rfl⟩
        go_wp2_with fail
        go_round
        case rel => exact ⟨xx, y' / 2, cc, rfl, by rw [Hyq.out], rfl, HN⟩
        case measure => have := Hdec.out; have := Hyq.out; simp [intOf]; omega
      · rw [if_neg hodd] at S
        have e1 : ((y' : Int) % 2 == 1) = false := by rw [beq_eq_false_iff_ne]; omega
        have HN := Lib.hid (⟨Hlt.out (x' + x'), h2, (show y' / 2 < 9223372036854775808 by omega), S.trans h4⟩ : (x' + x') % Chart.Q < Chart.Q ∧ c' < Chart.Q ∧ y' / 2 < 9223372036854775808 ∧ (c' + (x' + x') % Chart.Q * (y' / 2)) % Chart.Q = a * b % Chart.Q)
        generalize (x' + x') % Chart.Q = xx at *
        clear h1 h2 h3 h4 S hodd h0 hdec hyq P1
        go_wp2_with fail
        refine (P2.out _).mono ?_
        rintro e w1 ⟨rfl, rfl⟩
        go_wp2_with fail
        go_round
        case rel => exact ⟨xx, y' / 2, c', rfl, by rw [Hyq.out], rfl, HN⟩
        case measure => have := Hdec.out; have := Hyq.out; simp [intOf]; omega

theorem rscalar_any (x : Int) (w : World) : Calls Tryz.prog 41 #[.int .i64 x] w fun e w' => e = .returned (.bool (!outB x)) ∧ w = w' := by
  by_cases h1 : 0 ≤ x
  · by_cases h2 : x < 2305843009213688669
    · have h : outB x = false := outB_of h1 h2
      rw [h]
      go_enter Tryz.func41, Tryz.ntmps41
      go_wp2_with fail
      all_goals
        go_ret
        exact ⟨rfl, rfl⟩
    · have h : outB x = true := by unfold outB; simp; omega
      rw [h]
      go_enter Tryz.func41, Tryz.ntmps41
      go_wp2_with fail
      all_goals
        go_ret
        exact ⟨rfl, rfl⟩
  · have h : outB x = true := by unfold outB; simp; omega
    rw [h]
    go_enter Tryz.func41, Tryz.ntmps41
    go_wp2_with fail
    all_goals
      go_ret
      exact ⟨rfl, rfl⟩

/-- One round of squaring: the half of n, the square of a, and c times a where n is odd. -/
theorem square_step (m c a n : Nat) : ((if n % 2 = 1 then c * a % m else c) * (a * a % m) ^ (n / 2)) % m = c * a ^ n % m := Chart.low_bit m c a n

theorem rpow3_any (a n : Nat) (ha : a < Chart.Q) (hn : n < 9223372036854775808) (w : World) :
    Calls Tryz.prog 69 #[.int .i64 a, .int .i64 n] w fun e w' => e = .returned (.int .i64 (a ^ n % Chart.Q : Nat)) ∧ w = w' := by
  have hlt : ∀ x, x % Chart.Q < Chart.Q := fun x => Nat.mod_lt _ (by decide)
  have Hlt := Lib.hid hlt
  have Ha := Lib.hid ha
  have Hb := Lib.hid hn
  obtain ⟨T, hT⟩ : ∃ T, T = a ^ n % Chart.Q := ⟨_, rfl⟩
  rw [← hT]
  have HT := Lib.hid hT
  clear hlt ha hn hT
  go_enter Tryz.func69, Tryz.ntmps69
  go_wp2_with fail
  go_loop [0, 1, 5] (fun x y c => ∃ x' y' c' : Nat, x = .int .i64 x' ∧ y = .int .i64 y' ∧ c = .int .i64 c' ∧ Hid (x' < Chart.Q ∧ c' < Chart.Q ∧ y' < 9223372036854775808 ∧ c' * x' ^ y' % Chart.Q = T)) (fun _ y _ => (intOf y).toNat)
  case atStart => exact ⟨a, n, 1, rfl, rfl, rfl, Lib.hid ⟨Ha.out, by decide, Hb.out, by rw [Nat.one_mul, HT.out]⟩⟩
  case round =>
    obtain ⟨x', y', c', rfl, rfl, rfl, H⟩ := hrel
    obtain ⟨h1, h2, h3, h4⟩ := H.out
    by_cases h0 : y' = 0
    · subst h0
      have Hf := Lib.hid (show c' = T by rw [← h4, Nat.pow_zero, Nat.mul_one, Nat.mod_eq_of_lt h2])
      clear h1 h2 h3 h4
      go_wp2_with fail
      go_ret
      exact ⟨by rw [Hf.out]; rfl, rfl⟩
    · have S := square_step Chart.Q c' x' y'
      have P1 := Lib.hid (rprod3_any c' x' h2 (by rw [Q_eq] at h1; omega))
      have P2 := Lib.hid (rprod3_any x' x' h1 (by rw [Q_eq] at h1; omega))
      have hy0 : (0 : Int) < (y' : Int) := by omega
      have hyq : ((y' / 2 : Nat) : Int) = (y' : Int) / 2 := by omega
      have hdec : y' / 2 < y' := by omega
      have Hdec := Lib.hid hdec
      have Hyq := Lib.hid hyq
      have hy3 : (y' : Int) ≤ 9223372036854775807 := by omega
      by_cases hodd : y' % 2 = 1
      · rw [if_pos hodd] at S
        have e1 : ((y' : Int) % 2 == 1) = true := by rw [beq_iff_eq]; omega
        have HN := Lib.hid (⟨Hlt.out (x' * x'), Hlt.out (c' * x'), (show y' / 2 < 9223372036854775808 by omega), S.trans h4⟩ : x' * x' % Chart.Q < Chart.Q ∧ c' * x' % Chart.Q < Chart.Q ∧ y' / 2 < 9223372036854775808 ∧ (c' * x' % Chart.Q) * (x' * x' % Chart.Q) ^ (y' / 2) % Chart.Q = T)
        generalize x' * x' % Chart.Q = xx at *
        generalize c' * x' % Chart.Q = cc at *
        clear h1 h2 h3 h4 S hodd h0 hdec hyq
        go_wp2_with fail
        refine (P1.out _).mono ?_
        rintro e w1 ⟨rfl, rfl⟩
        go_wp2_with fail
        refine (P2.out _).mono ?_
        rintro e w1 ⟨rfl, rfl⟩
        go_wp2_with fail
        go_round
        case rel => exact ⟨xx, y' / 2, cc, rfl, by rw [Hyq.out], rfl, HN⟩
        case measure => have := Hdec.out; have := Hyq.out; simp [intOf]; omega
      · rw [if_neg hodd] at S
        have e1 : ((y' : Int) % 2 == 1) = false := by rw [beq_eq_false_iff_ne]; omega
        have HN := Lib.hid (⟨Hlt.out (x' * x'), h2, (show y' / 2 < 9223372036854775808 by omega), S.trans h4⟩ : x' * x' % Chart.Q < Chart.Q ∧ c' < Chart.Q ∧ y' / 2 < 9223372036854775808 ∧ c' * (x' * x' % Chart.Q) ^ (y' / 2) % Chart.Q = T)
        generalize x' * x' % Chart.Q = xx at *
        clear h1 h2 h3 h4 S hodd h0 hdec hyq P1
        go_wp2_with fail
        refine (P2.out _).mono ?_
        rintro e w1 ⟨rfl, rfl⟩
        go_wp2_with fail
        go_round
        case rel => exact ⟨xx, y' / 2, c', rfl, by rw [Hyq.out], rfl, HN⟩
        case measure => have := Hdec.out; have := Hyq.out; simp [intOf]; omega

theorem rinv_ok (a : Nat) (h0 : 0 < a) (ha : a < Chart.Q) (w : World) :
    Calls Tryz.prog 47 #[.int .i64 a] w fun e w' => e = two ((a ^ (Chart.Q - 2) % Chart.Q : Nat) : Int) 0 ∧ w = w' := by
  have S1 := rscalar_any (a : Int)
  rw [outB_nat ha] at S1
  have b0 : ((a : Int) == 0) = false := beq_eq_false_iff_ne.2 (by omega)
  have hQ2 : Chart.Q - 2 = 2305843009213688667 := rfl
  have P := Lib.hid (rpow3_any a (Chart.Q - 2) ha (by rw [hQ2]; decide))
  replace S1 := Lib.hid S1
  generalize a ^ (Chart.Q - 2) % Chart.Q = r at *
  rw [hQ2] at P
  clear ha hQ2 h0
  go_enter Tryz.func47, Tryz.ntmps47
  go_wp2_with fail
  refine (S1.out _).mono ?_
  rintro e w1 ⟨rfl, rfl⟩
  go_wp2_with fail
  refine (P.out _).mono ?_
  rintro e w1 ⟨rfl, rfl⟩
  go_wp2_with fail
  go_ret2
  exact ⟨rfl, rfl⟩
end Go.Proofs.YtgklcfipgdbbgaaGreatDoor

/- chartroomref03.Mul. -/
namespace Go.Proofs.YtgklcfipgdbbgaaGreatDoor
open Go.RowKit

theorem rmul_ok (a b : Nat) (ha : a < Chart.Q) (hb : b < Chart.Q) (w : World) :
    Calls Tryz.prog 48 #[.int .i64 a, .int .i64 b] w fun e w' => e = two ((a * b % Chart.Q : Nat) : Int) 0 ∧ w = w' := by
  have S1 := rscalar_any (a : Int)
  have S2 := rscalar_any (b : Int)
  rw [outB_nat ha] at S1
  rw [outB_nat hb] at S2
  have P := Lib.hid (rprod3_any a b ha (by rw [Q_eq] at hb; omega))
  replace S1 := Lib.hid S1
  replace S2 := Lib.hid S2
  generalize a * b % Chart.Q = r at *
  clear ha hb
  go_enter Tryz.func48, Tryz.ntmps48
  go_wp2_with fail
  refine (S1.out _).mono ?_
  rintro e w1 ⟨rfl, rfl⟩
  go_wp2_with fail
  refine (S2.out _).mono ?_
  rintro e w1 ⟨rfl, rfl⟩
  go_wp2_with fail
  refine (P.out _).mono ?_
  rintro e w1 ⟨rfl, rfl⟩
  go_wp2_with fail
  go_ret2
  exact ⟨rfl, rfl⟩
end Go.Proofs.YtgklcfipgdbbgaaGreatDoor

/- The reference's field on elements of the field. -/
namespace Go.Proofs.YtgklcfipgdbbgaaGreatDoor
open Go.RowKit

theorem rsum_le (a b : Nat) (ha : a < Chart.Q) (hb : b ≤ Chart.Q) (w : World) :
    Calls Tryz.prog 42 #[.int .i64 a, .int .i64 b] w fun e w' => e = .returned (.int .i64 ((a + b) % Chart.Q : Nat)) ∧ w = w' := by
  have hQ := Q_eq
  obtain ⟨r, hr⟩ : ∃ n, n = (a + b) % Chart.Q := ⟨_, rfl⟩
  have e1 : ((a : Int) + (b : Int)) % 2305843009213688669 = (r : Int) := by rw [hr, hQ]; omega
  obtain ⟨x, hx⟩ : ∃ x : Int, x = (a : Int) + (b : Int) := ⟨_, rfl⟩
  have e2 : IntKind.i64.wrap ((a : Int) + (b : Int)) = x := by rw [wrap_i64_small _ (by omega) (by omega), hx]
  have e3 : x.tmod 2305843009213688669 = (r : Int) := by rw [Int.tmod_eq_emod_of_nonneg (by omega), hx, e1]
  have e4 : IntKind.i64.wrap (r : Int) = (r : Int) := wrap_i64_small _ (by omega) (by rw [hr]; have := Nat.mod_lt (a + b) (show Chart.Q > 0 by rw [hQ]; decide); omega)
  rw [← hr]
  clear hr ha hb e1 hx hQ
  go_enter Tryz.func42, Tryz.ntmps42
  go_wp2_with fail
  go_ret
  exact ⟨rfl, rfl⟩
theorem rmulF (a b : Chart.F) (w : World) : Calls Tryz.prog 48 #[fv a, fv b] w fun e w' => e = two ((a * b).val : Nat) 0 ∧ w = w' := rmul_ok a.val b.val a.isLt b.isLt w
theorem raddF (a b : Chart.F) (w : World) : Calls Tryz.prog 49 #[fv a, fv b] w fun e w' => e = two ((a + b).val : Nat) 0 ∧ w = w' := by
  have S1 := rscalar_any (a.val : Int)
  have S2 := rscalar_any (b.val : Int)
  rw [outB_nat a.isLt] at S1
  rw [outB_nat b.isLt] at S2
  have P : ∀ w, Calls Tryz.prog 42 #[fv a, fv b] w fun e w' => e = .returned (.int .i64 ((a + b).val : Nat)) ∧ w = w' := rsum_le a.val b.val a.isLt (Nat.le_of_lt b.isLt)
  generalize a + b = c at *
  replace P := Lib.hid P
  replace S1 := Lib.hid S1
  replace S2 := Lib.hid S2
  go_enter Tryz.func49, Tryz.ntmps49
  go_wp2_with fail
  refine (S1.out _).mono ?_
  rintro e w1 ⟨rfl, rfl⟩
  go_wp2_with fail
  refine (S2.out _).mono ?_
  rintro e w1 ⟨rfl, rfl⟩
  go_wp2_with fail
  refine (P.out _).mono ?_
  rintro e w1 ⟨rfl, rfl⟩
  go_wp2_with fail
  go_ret2
  exact ⟨rfl, rfl⟩
theorem rsubF (a b : Chart.F) (w : World) : Calls Tryz.prog 46 #[fv a, fv b] w fun e w' => e = two ((a - b).val : Nat) 0 ∧ w = w' := by
  have S1 := rscalar_any (a.val : Int)
  have S2 := rscalar_any (b.val : Int)
  rw [outB_nat a.isLt] at S1
  rw [outB_nat b.isLt] at S2
  have P := rsum_le a.val (Chart.Q - b.val) a.isLt (Nat.sub_le _ _)
  rw [← sub_val] at P
  generalize a - b = c at *
  have hb : b.val < 2305843009213688669 := b.isLt
  obtain ⟨d, hd⟩ : ∃ d : Nat, d = Chart.Q - b.val := ⟨_, rfl⟩
  rw [← hd] at P
  have hd' : d = 2305843009213688669 - b.val := hd
  have e1 : IntKind.i64.wrap (2305843009213688669 - (b.val : Int)) = (d : Int) := by rw [wrap_i64_small _ (by omega) (by omega)]; omega
  clear hd hd' hb
  replace P := Lib.hid P
  replace S1 := Lib.hid S1
  replace S2 := Lib.hid S2
  go_enter Tryz.func46, Tryz.ntmps46
  go_wp2_with fail
  refine (S1.out _).mono ?_
  rintro e w1 ⟨rfl, rfl⟩
  go_wp2_with fail
  refine (S2.out _).mono ?_
  rintro e w1 ⟨rfl, rfl⟩
  go_wp2_with fail
  refine (P.out _).mono ?_
  rintro e w1 ⟨rfl, rfl⟩
  go_wp2_with fail
  go_ret2
  exact ⟨rfl, rfl⟩
theorem rinv_zero (w : World) : Calls Tryz.prog 47 #[.int .i64 0] w fun e w' => e = two 0 30 ∧ w = w' := by
  have S1 := Lib.hid (rscalar_any 0)
  rw [show outB 0 = false from rfl] at S1
  go_enter Tryz.func47, Tryz.ntmps47
  go_wp2_with fail
  refine (S1.out _).mono ?_
  rintro e w1 ⟨rfl, rfl⟩
  go_wp2_with fail
  go_ret2
  exact ⟨rfl, rfl⟩
theorem rinvF (a : Chart.F) (w : World) : Calls Tryz.prog 47 #[fv a] w fun e w' => (∃ z, e = two ((Chart.inv a).val : Nat) z) ∧ w = w' := by
  by_cases h : a.val = 0
  · have h1 : (Chart.inv a).val = 0 := by rw [inv_val]; exact finv_of_zero _ h
    rw [h1, fv, h]
    refine (rinv_zero w).mono ?_
    rintro e w' ⟨rfl, hb⟩
    exact ⟨⟨30, rfl⟩, hb⟩
  · rw [inv_pow]
    refine (rinv_ok a.val (Nat.pos_of_ne_zero h) a.isLt w).mono ?_
    rintro e w' ⟨rfl, hb⟩
    exact ⟨⟨0, rfl⟩, hb⟩
end Go.Proofs.YtgklcfipgdbbgaaGreatDoor

/- chartroomref08.Value. -/
namespace Go.Proofs.YtgklcfipgdbbgaaGreatDoor
open Go.RowKit

theorem valTo_step (l : Chart.Sh) (x : Chart.F) {k : Nat} (h : k < l.length) : Chart.valTo l x (k + 1) = Chart.valTo l x k + l[k].2 * Chart.upTo (fun b => (x - b) * Chart.inv (l[k].1 - b)) (Chart.places l) k l.length := by
  have h1 := Chart.valTo_succ l x h
  have hp : k < (Chart.places l).length := by rw [Chart.places_length]; exact h
  have h2 := Chart.basis_ref (Chart.places l) k x l[k].2 hp
  rw [Chart.places_at l hp] at h2
  have key : ∀ N, N = (Chart.places l).length → Chart.valTo l x (k + 1) = Chart.valTo l x k + l[k].2 * Chart.upTo (fun b => (x - b) * Chart.inv (l[k].1 - b)) (Chart.places l) k N := by
    rintro N rfl
    rw [h1, ← h2]
  exact key l.length (Chart.places_length l).symm

set_option maxRecDepth 20000 in
set_option maxHeartbeats 4000000 in
theorem rvalue_at (l : Chart.Sh) (x : Chart.F) (g off cap : Nat) (h2 : l.length ≤ 64) (w : World) (hS : SAt w g off (Chart.raw l)) (hg : g < w.heap.size) :
    Calls Tryz.prog 23 #[.slice (some ⟨g, off, none⟩) l.length cap, fv x] w fun e w' => e = .returned (fv (Chart.val l x)) ∧ Below w.heap.size w w' := by
  obtain ⟨n, hn⟩ : ∃ n, n = l.length := ⟨_, rfl⟩
  rw [← hn] at h2 ⊢
  have hsl : ∀ i, i < n → ∀ W, Below w.heap.size w W → W.cell? ⟨g, off + i * 2, none⟩ = some (fv (l.getD i (0, 0)).1) ∧ W.cell? ⟨g, off + i * 2 + 1, none⟩ = some (fv (l.getD i (0, 0)).2) := by
    intro i hi W hB
    have h3 := (hS.below hB hg) i (by rw [Chart.raw_length]; omega)
    rw [raw_at] at h3
    rw [Chart.getD_at l (show i < l.length by omega)]
    exact h3
  have H := Lib.hid (And.intro hn hsl)
  clear hn hsl hS
  go_enter Tryz.func23, Tryz.ntmps23
  go_wp2_with fail
  go_loopw [5, 6] (fun s i wr => ∃ t : Nat, t ≤ n ∧ i = .int .i64 t ∧ s = fv (Chart.valTo l x t) ∧ Hid (Below w.heap.size w wr)) (fun _ i _ => n - (intOf i).toNat)
  case atStart => exact ⟨0, Nat.zero_le _, rfl, rfl, Lib.hid (Below.refl _ _)⟩
  case round =>
    obtain ⟨t, ht, rfl, rfl, hB⟩ := hrel
    by_cases hlt : t < n
    · have htl : t < l.length := by have := H.out.1; omega
      have hst := valTo_step l x htl
      have hct := fun W hB => H.out.2 t hlt W hB
      rw [Chart.getD_at l htl] at hct
      obtain ⟨sa, hsa⟩ : ∃ sa, sa = l[t] := ⟨_, rfl⟩
      rw [← hsa] at hst hct
      obtain ⟨a, y0⟩ := sa
      dsimp only at hst hct
      rw [← H.out.1] at hst
      have HC := Lib.hid (And.intro hst hct)
      have k1 := (hct wr hB.out).2
      have htn : (t : Int) < (n : Int) := by omega
      generalize Chart.valTo l x t = s at *
      clear hst hct hsa
      go_wp2_with fail
      go_loopw [7, 8] (fun y k wq => ∃ q : Nat, q ≤ n ∧ k = .int .i64 q ∧ y = fv (y0 * Chart.upTo (fun b => (x - b) * Chart.inv (a - b)) (Chart.places l) t q) ∧ Hid (Below w.heap.size w wq)) (fun _ k _ => n - (intOf k).toNat)
      case atStart =>
        refine ⟨0, Nat.zero_le _, rfl, ?_, hB⟩
        rw [Chart.upTo_zero]
        congr 2
        grind
      case round =>
        obtain ⟨q, hq, rfl, rfl, hQ⟩ := hrel
        by_cases hql : q < n
        · have hql' : q < l.length := by have := H.out.1; omega
          by_cases he : q = t
          · subst he
            go_wp2_with fail
            go_roundw
            case rel => exact ⟨q + 1, by omega, by go_num, by rw [Chart.upTo_skip], hQ⟩
            case measure => simp [intOf] <;> omega
          · have hne : ((q : Int) == (t : Int)) = false := beq_eq_false_iff_ne.2 (by omega)
            have hqp : q < (Chart.places l).length := by rw [Chart.places_length]; exact hql'
            have hs1 := Chart.upTo_step (fun b => (x - b) * Chart.inv (a - b)) (Chart.places l) hqp he
            rw [Chart.places_at l hqp] at hs1
            have c1 := (H.out.2 q hql wr hQ.out).1
            rw [Chart.getD_at l hql'] at c1
            have c2 := (HC.out.2 wr hQ.out).1
            have hqn : (q : Int) < (n : Int) := by omega
            generalize l[q].1 = b at *
            generalize Chart.upTo (fun b => (x - b) * Chart.inv (a - b)) (Chart.places l) t q = u at *
            have C1 := Lib.hid (rsubF x b)
            have C2 := Lib.hid (rsubF a b)
            have C3 := Lib.hid (rinvF (a - b))
            have C4 := Lib.hid (rmulF (y0 * u) (x - b))
            have C5 := Lib.hid (rmulF (y0 * u * (x - b)) (Chart.inv (a - b)))
            obtain ⟨p1, hp1⟩ : ∃ p, p = x - b := ⟨_, rfl⟩
            obtain ⟨p2, hp2⟩ : ∃ p, p = a - b := ⟨_, rfl⟩
            obtain ⟨p3, hp3⟩ : ∃ p, p = Chart.inv p2 := ⟨_, rfl⟩
            obtain ⟨p4, hp4⟩ : ∃ p, p = y0 * u * p1 := ⟨_, rfl⟩
            obtain ⟨p5, hp5⟩ : ∃ p, p = p4 * p3 := ⟨_, rfl⟩
            obtain ⟨yu, hyu⟩ : ∃ p, p = y0 * u := ⟨_, rfl⟩
            have hfin : y0 * Chart.upTo (fun b => (x - b) * Chart.inv (a - b)) (Chart.places l) t (q + 1) = p5 := by
              rw [hs1, hp5, hp4, hp3, hp1, hp2]; grind
            rw [← hp1] at C1
            rw [← hp2] at C2
            rw [← hp2, ← hp3] at C3
            rw [← hp1, ← hp4] at C4
            rw [← hp1, ← hp2, ← hp4, ← hp3, ← hp5] at C5
            rw [← hyu] at C4 ⊢
            have Hf := Lib.hid hfin
            clear hs1 hp1 hp2 hp3 hp4 hp5 hyu hfin he hqp
            go_wp2_with fail
            refine (C1.out _).mono ?_
            rintro e w1 ⟨rfl, rfl⟩
            go_wp2_with fail
            go_quiet (exact Calls.quiet_of_same (stillOf (C2.out _)))
            have hqq := Lib.hid (hQ.out.trans (show Below w.heap.size wr (wr.drewN nq) from Below.of_drewN _ _ _))
            go_wp2_with fail
            refine (C3.out _).mono ?_
            rintro e w1 ⟨⟨z, rfl⟩, rfl⟩
            go_wp2_with fail
            refine (C4.out _).mono ?_
            rintro e w1 ⟨rfl, rfl⟩
            go_wp2_with fail
            refine (C5.out _).mono ?_
            rintro e w1 ⟨rfl, rfl⟩
            go_wp2_with fail
            go_roundw
            case rel => exact ⟨q + 1, by omega, by go_num, by rw [Hf.out], hqq⟩
            case measure => simp [intOf] <;> omega
        · obtain rfl : q = n := by omega
          have C1 := Lib.hid (raddF s (y0 * Chart.upTo (fun b => (x - b) * Chart.inv (a - b)) (Chart.places l) t q))
          rw [← HC.out.1] at C1
          generalize y0 * Chart.upTo (fun b => (x - b) * Chart.inv (a - b)) (Chart.places l) t q = yy at *
          go_wp2_with fail
          refine (C1.out _).mono ?_
          rintro e w1 ⟨rfl, rfl⟩
          go_wp2_with fail
          go_roundw
          case rel => exact ⟨t + 1, by omega, by go_num, rfl, hQ⟩
          case measure => simp [intOf] <;> omega
    · obtain rfl : t = n := by omega
      go_wp2_with fail
      go_ret
      refine ⟨?_, hB.out⟩
      have e : Chart.valTo l x t = Chart.val l x := by rw [H.out.1]; exact Chart.valTo_all l x
      rw [← e]
      rfl
end Go.Proofs.YtgklcfipgdbbgaaGreatDoor
