/- The reference's group (chartroomref04): sums, products and powers by doubling; Check, IsScalar, Exp. -/
import Derived.Test.YtejjincnghmbbaaGreatDoorMRf3
import Derived.Test.YtejjincnghmbbaaGreatDoorM20
namespace Go.Proofs.YtejjincnghmbbaaGreatDoor
open Go.RowKit

theorem rsum4_any (a b m : Nat) (ha : a < m) (hb : b < m) (hm : m < 4611686018427387904) (w : World) :
    Calls Tryz.prog 71 #[.int .i64 a, .int .i64 b, .int .i64 m] w fun e w' => e = .returned (.int .i64 ((a + b) % m : Nat)) ∧ w = w' := by
  have e2 : IntKind.i64.wrap ((a : Int) + (b : Int)) = (a : Int) + (b : Int) := wrap_i64_small _ (by omega) (by omega)
  by_cases h : m ≤ a + b
  · have hr : (((a + b) % m : Nat) : Int) = (a : Int) + (b : Int) - (m : Int) := by
      rw [Nat.mod_eq_sub_mod h, Nat.mod_eq_of_lt (by omega)]
      omega
    have h1 : (m : Int) ≤ (a : Int) + (b : Int) := by omega
    have e3 : IntKind.i64.wrap ((a : Int) + (b : Int) - (m : Int)) = (a : Int) + (b : Int) - (m : Int) := wrap_i64_small _ (by omega) (by omega)
    rw [hr]
    clear hr h ha hb hm
    go_enter Tryz.func71, Tryz.ntmps71
    go_wp2_with fail
    go_ret
    exact ⟨rfl, rfl⟩
  · have hr : (((a + b) % m : Nat) : Int) = (a : Int) + (b : Int) := by
      rw [Nat.mod_eq_of_lt (by omega)]
      omega
    have h1 : ¬ (m : Int) ≤ (a : Int) + (b : Int) := by omega
    rw [hr]
    clear hr h ha hb hm
    go_enter Tryz.func71, Tryz.ntmps71
    go_wp2_with fail
    go_ret
    exact ⟨rfl, rfl⟩

theorem rprod4_any (a b m : Nat) (ha : a < m) (hb : b < 9223372036854775808) (hm : m < 4611686018427387904) (w : World) :
    Calls Tryz.prog 52 #[.int .i64 a, .int .i64 b, .int .i64 m] w fun e w' => e = .returned (.int .i64 (a * b % m : Nat)) ∧ w = w' := by
  have hlt : ∀ x, x % m < m := fun x => Nat.mod_lt _ (by omega)
  have Hlt := Lib.hid hlt
  have Ha := Lib.hid ha
  have Hb := Lib.hid hb
  have Hm := Lib.hid hm
  clear hlt ha hb hm
  go_enter Tryz.func52, Tryz.ntmps52
  go_wp2_with fail
  go_loop [0, 1, 7] (fun x y c => ∃ x' y' c' : Nat, x = .int .i64 x' ∧ y = .int .i64 y' ∧ c = .int .i64 c' ∧ Hid (x' < m ∧ c' < m ∧ y' < 9223372036854775808 ∧ (c' + x' * y') % m = a * b % m)) (fun _ y _ => (intOf y).toNat)
  case atStart => exact ⟨a, b, 0, rfl, rfl, rfl, Lib.hid ⟨Ha.out, by have := Ha.out; omega, Hb.out, by rw [Nat.zero_add]⟩⟩
  case round =>
    obtain ⟨x', y', c', rfl, rfl, rfl, H⟩ := hrel
    obtain ⟨h1, h2, h3, h4⟩ := H.out
    by_cases h0 : y' = 0
    · subst h0
      have Hf := Lib.hid (show c' = a * b % m by rw [← h4, Nat.mul_zero, Nat.add_zero, Nat.mod_eq_of_lt h2])
      clear h1 h2 h3 h4
      go_wp2_with fail
      go_ret
      exact ⟨by rw [Hf.out]; rfl, rfl⟩
    · have S := double_step m c' x' y'
      have P1 := Lib.hid (rsum4_any c' x' m h2 h1 Hm.out)
      have P2 := Lib.hid (rsum4_any x' x' m h1 h1 Hm.out)
      have hy0 : (0 : Int) < (y' : Int) := by omega
      have hyq : ((y' / 2 : Nat) : Int) = (y' : Int) / 2 := by omega
      have hdec : y' / 2 < y' := by omega
      have Hdec := Lib.hid hdec
      have Hyq := Lib.hid hyq
      have hy3 : (y' : Int) ≤ 9223372036854775807 := by omega
      by_cases hodd : y' % 2 = 1
      · rw [if_pos hodd] at S
        have e1 : ((y' : Int) % 2 == 1) = true := by rw [beq_iff_eq]; omega
        have HN := Lib.hid (⟨Hlt.out (x' + x'), Hlt.out (c' + x'), (show y' / 2 < 9223372036854775808 by omega), S.trans h4⟩ : (x' + x') % m < m ∧ (c' + x') % m < m ∧ y' / 2 < 9223372036854775808 ∧ ((c' + x') % m + (x' + x') % m * (y' / 2)) % m = a * b % m)
        generalize (x' + x') % m = xx at *
        generalize (c' + x') % m = cc at *
        clear h1 h2 h3 h4 S hodd h0 hdec hyq
        go_wp2_with fail
        refine (P1.out _).mono ?_
        rintro e w1 ⟨rfl, rfl⟩
        go_wp2_with fail
        refine (P2.out _).mono ?_
        rintro e w1 ⟨rfl, rfl⟩
        go_wp2_with fail
        go_round
        case rel => exact ⟨xx, y' / 2, cc, rfl, by rw [Hyq.out], rfl, HN⟩
        case measure => have := Hdec.out; have := Hyq.out; simp [intOf]; omega
      · rw [if_neg hodd] at S
        have e1 : ((y' : Int) % 2 == 1) = false := by rw [beq_eq_false_iff_ne]; omega
        have HN := Lib.hid (⟨Hlt.out (x' + x'), h2, (show y' / 2 < 9223372036854775808 by omega), S.trans h4⟩ : (x' + x') % m < m ∧ c' < m ∧ y' / 2 < 9223372036854775808 ∧ (c' + (x' + x') % m * (y' / 2)) % m = a * b % m)
        generalize (x' + x') % m = xx at *
        clear h1 h2 h3 h4 S hodd h0 hdec hyq P1
        go_wp2_with fail
        refine (P2.out _).mono ?_
        rintro e w1 ⟨rfl, rfl⟩
        go_wp2_with fail
        go_round
        case rel => exact ⟨xx, y' / 2, c', rfl, by rw [Hyq.out], rfl, HN⟩
        case measure => have := Hdec.out; have := Hyq.out; simp [intOf]; omega

theorem rpow4_any (a n : Nat) (ha : a < PP) (hn : n < 9223372036854775808) (w : World) :
    Calls Tryz.prog 48 #[.int .i64 a, .int .i64 n] w fun e w' => e = .returned (.int .i64 (a ^ n % PP : Nat)) ∧ w = w' := by
  have hlt : ∀ x, x % PP < PP := fun x => Nat.mod_lt _ (by rw [PP_eq]; decide)
  have hPl : ∀ x, x < PP → x < 9223372036854775808 := fun x h => by rw [PP_eq] at h; omega
  have hP2 : PP < 4611686018427387904 := by rw [PP_eq]; decide
  have R : ∀ x y, x < PP → y < PP → ∀ w, Calls Tryz.prog 52 #[.int .i64 x, .int .i64 y, .int .i64 4611686018427377339] w fun e w' => e = .returned (.int .i64 (x * y % PP : Nat)) ∧ w = w' :=
    fun x y hx hy w => rprod4_any x y PP hx (hPl y hy) hP2 w
  have Hlt := Lib.hid hlt
  have Ha := Lib.hid ha
  have Hb := Lib.hid hn
  have HR := Lib.hid R
  obtain ⟨T, hT⟩ : ∃ T, T = a ^ n % PP := ⟨_, rfl⟩
  rw [← hT]
  have HT := Lib.hid hT
  have H1 := Lib.hid (show 1 < PP by rw [PP_eq]; decide)
  clear hlt ha hn hT R hP2 hPl
  go_enter Tryz.func48, Tryz.ntmps48
  go_wp2_with fail
  go_loop [0, 1, 5] (fun x y c => ∃ x' y' c' : Nat, x = .int .i64 x' ∧ y = .int .i64 y' ∧ c = .int .i64 c' ∧ Hid (x' < PP ∧ c' < PP ∧ y' < 9223372036854775808 ∧ c' * x' ^ y' % PP = T)) (fun _ y _ => (intOf y).toNat)
  case atStart => exact ⟨a, n, 1, rfl, rfl, rfl, Lib.hid ⟨Ha.out, H1.out, Hb.out, by rw [Nat.one_mul, HT.out]⟩⟩
  case round =>
    obtain ⟨x', y', c', rfl, rfl, rfl, H⟩ := hrel
    obtain ⟨h1, h2, h3, h4⟩ := H.out
    by_cases h0 : y' = 0
    · subst h0
      have Hf := Lib.hid (show c' = T by rw [← h4, Nat.pow_zero, Nat.mul_one, Nat.mod_eq_of_lt h2])
      clear h1 h2 h3 h4
      go_wp2_with fail
      go_ret
      exact ⟨by rw [Hf.out]; rfl, rfl⟩
    · have S := square_step PP c' x' y'
      have P1 := Lib.hid (HR.out c' x' h2 h1)
      have P2 := Lib.hid (HR.out x' x' h1 h1)
      have hy0 : (0 : Int) < (y' : Int) := by omega
      have hyq : ((y' / 2 : Nat) : Int) = (y' : Int) / 2 := by omega
      have hdec : y' / 2 < y' := by omega
      have Hdec := Lib.hid hdec
      have Hyq := Lib.hid hyq
      have hy3 : (y' : Int) ≤ 9223372036854775807 := by omega
      by_cases hodd : y' % 2 = 1
      · rw [if_pos hodd] at S
        have e1 : ((y' : Int) % 2 == 1) = true := by rw [beq_iff_eq]; omega
        have HN := Lib.hid (⟨Hlt.out (x' * x'), Hlt.out (c' * x'), (show y' / 2 < 9223372036854775808 by omega), S.trans h4⟩ : x' * x' % PP < PP ∧ c' * x' % PP < PP ∧ y' / 2 < 9223372036854775808 ∧ (c' * x' % PP) * (x' * x' % PP) ^ (y' / 2) % PP = T)
        generalize x' * x' % PP = xx at *
        generalize c' * x' % PP = cc at *
        clear h1 h2 h3 h4 S hodd h0 hdec hyq
        go_wp2_with fail
        refine (P1.out _).mono ?_
        rintro e w1 ⟨rfl, rfl⟩
        go_wp2_with fail
        refine (P2.out _).mono ?_
        rintro e w1 ⟨rfl, rfl⟩
        go_wp2_with fail
        go_round
        case rel => exact ⟨xx, y' / 2, cc, rfl, by rw [Hyq.out], rfl, HN⟩
        case measure => have := Hdec.out; have := Hyq.out; simp [intOf]; omega
      · rw [if_neg hodd] at S
        have e1 : ((y' : Int) % 2 == 1) = false := by rw [beq_eq_false_iff_ne]; omega
        have HN := Lib.hid (⟨Hlt.out (x' * x'), h2, (show y' / 2 < 9223372036854775808 by omega), S.trans h4⟩ : x' * x' % PP < PP ∧ c' < PP ∧ y' / 2 < 9223372036854775808 ∧ c' * (x' * x' % PP) ^ (y' / 2) % PP = T)
        generalize x' * x' % PP = xx at *
        clear h1 h2 h3 h4 S hodd h0 hdec hyq P1
        go_wp2_with fail
        refine (P2.out _).mono ?_
        rintro e w1 ⟨rfl, rfl⟩
        go_wp2_with fail
        go_round
        case rel => exact ⟨xx, y' / 2, c', rfl, by rw [Hyq.out], rfl, HN⟩
        case measure => have := Hdec.out; have := Hyq.out; simp [intOf]; omega

theorem rcheck_out (x : Int) (h : x < 1 ∨ 4611686018427377339 ≤ x) (w : World) :
    Calls Tryz.prog 24 #[.int .i64 x] w fun e w' => e = .returned (.int .i64 40) ∧ w = w' := by
  by_cases b1 : x < 1
  · clear h
    go_enter Tryz.func24, Tryz.ntmps24
    go_wp2_with fail
    go_ret
    exact ⟨rfl, rfl⟩
  · have b2 : (4611686018427377339 : Int) ≤ x := by omega
    clear h
    go_enter Tryz.func24, Tryz.ntmps24
    go_wp2_with fail
    go_ret
    exact ⟨rfl, rfl⟩

theorem rcheck_in (a : Nat) (h1 : 1 ≤ a) (h2 : a < PP) (w : World) :
    Calls Tryz.prog 24 #[.int .i64 a] w fun e w' => e = .returned (.int .i64 (if a ^ Chart.Q % PP = 1 then 0 else 40)) ∧ w = w' := by
  have hP := PP_eq
  have P := rpow4_any a Chart.Q h2 (by rw [Q_eq]; decide)
  obtain ⟨r, hr⟩ : ∃ r, r = a ^ Chart.Q % PP := ⟨_, rfl⟩
  rw [← hr] at P ⊢
  rw [Q_eq] at P
  replace P := Lib.hid P
  obtain ⟨x, hx⟩ : ∃ x : Int, x = (a : Int) := ⟨_, rfl⟩
  have b1 : ¬ x < 1 := by omega
  have b2 : ¬ (4611686018427377339 : Int) ≤ x := by omega
  rw [← hx] at P ⊢
  clear hr h1 h2 hP hx
  by_cases h : r = 1
  · rw [if_pos h]
    have b3 : ((r : Int) != 1) = false := by rw [h]; rfl
    clear h
    go_enter Tryz.func24, Tryz.ntmps24
    go_wp2_with fail
    refine (P.out _).mono ?_
    rintro e w1 ⟨rfl, rfl⟩
    go_wp2_with fail
    go_ret
    exact ⟨rfl, rfl⟩
  · rw [if_neg h]
    have b3 : ((r : Int) != 1) = true := by rw [bne_iff_ne]; omega
    clear h
    go_enter Tryz.func24, Tryz.ntmps24
    go_wp2_with fail
    refine (P.out _).mono ?_
    rintro e w1 ⟨rfl, rfl⟩
    go_wp2_with fail
    go_ret
    exact ⟨rfl, rfl⟩

theorem rcheck_ok (a : Nat) (h : Grp a) (w : World) :
    Calls Tryz.prog 24 #[.int .i64 a] w fun e w' => e = .returned (.int .i64 0) ∧ w = w' := by
  have := rcheck_in a h.1 h.2.1 w
  rw [if_pos h.2.2] at this
  exact this
theorem rcheck_bad (x : Int) (h : ¬ ∃ n : Nat, x = n ∧ Grp n) (w : World) :
    Calls Tryz.prog 24 #[.int .i64 x] w fun e w' => e = .returned (.int .i64 40) ∧ w = w' := by
  by_cases hx : x < 1 ∨ 4611686018427377339 ≤ x
  · exact rcheck_out x hx w
  · have hP := PP_eq
    obtain ⟨n, rfl⟩ := Int.eq_ofNat_of_zero_le (show 0 ≤ x by omega)
    have := rcheck_in n (by omega) (by omega) w
    rw [if_neg (fun h3 => h ⟨n, rfl, by omega, by omega, h3⟩)] at this
    exact this

theorem risscalar_ok (k : Nat) (hk : k < Chart.Q) (w : World) : Calls Tryz.prog 51 #[.int .i64 k] w fun e w' => e = .returned (.bool true) ∧ w = w' := by
  have h1 : (0 : Int) ≤ (k : Int) := by omega
  have h2 : (k : Int) < 2305843009213688669 := by rw [Q_eq] at hk; omega
  clear hk
  generalize (k : Int) = x at *
  go_enter Tryz.func51, Tryz.ntmps51
  go_wp2_with fail
  all_goals
    go_ret
    exact ⟨rfl, rfl⟩

theorem rexp_ok (a k : Nat) (h : Grp a) (hk : k < Chart.Q) (w : World) :
    Calls Tryz.prog 27 #[.int .i64 a, .int .i64 k] w fun e w' => e = two ((a ^ k % PP : Nat) : Int) 0 ∧ w = w' := by
  have C1 := Lib.hid (rcheck_ok a h)
  have C2 := Lib.hid (risscalar_ok k hk)
  have C3 := Lib.hid (rpow4_any a k h.2.1 (by rw [Q_eq] at hk; omega))
  generalize a ^ k % PP = r at *
  clear h hk
  go_enter Tryz.func27, Tryz.ntmps27
  go_wp2_with fail
  refine (C1.out _).mono ?_
  rintro e w1 ⟨rfl, rfl⟩
  go_wp2_with fail
  refine (C2.out _).mono ?_
  rintro e w1 ⟨rfl, rfl⟩
  go_wp2_with fail
  refine (C3.out _).mono ?_
  rintro e w1 ⟨rfl, rfl⟩
  go_wp2_with fail
  go_ret2
  exact ⟨rfl, rfl⟩
end Go.Proofs.YtejjincnghmbbaaGreatDoor
