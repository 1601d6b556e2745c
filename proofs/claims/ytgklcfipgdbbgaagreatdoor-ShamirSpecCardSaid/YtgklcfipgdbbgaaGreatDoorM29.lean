/- chartroomref04: sums and products. -/
import Derived.Test.YtgklcfipgdbbgaaGreatDoorM28
namespace Go.Proofs.YtgklcfipgdbbgaaGreatDoor
open Go.RowKit

theorem rsum4_any (a b m : Nat) (ha : a < m) (hb : b < m) (hm : m < 4611686018427387904) (w : World) :
    Calls Tryz.prog 103 #[.int .i64 a, .int .i64 b, .int .i64 m] w fun e w' => e = .returned (.int .i64 ((a + b) % m : Nat)) ∧ w = w' := by
  have e2 : IntKind.i64.wrap ((a : Int) + (b : Int)) = (a : Int) + (b : Int) := wrap_i64_small _ (by omega) (by omega)
  by_cases h : m ≤ a + b
  · have hr : (((a + b) % m : Nat) : Int) = (a : Int) + (b : Int) - (m : Int) := by
      rw [Nat.mod_eq_sub_mod h, Nat.mod_eq_of_lt (by omega)]
      omega
    have h1 : (m : Int) ≤ (a : Int) + (b : Int) := by omega
    have e3 : IntKind.i64.wrap ((a : Int) + (b : Int) - (m : Int)) = (a : Int) + (b : Int) - (m : Int) := wrap_i64_small _ (by omega) (by omega)
    rw [hr]
    clear hr h ha hb hm
    go_enter Tryz.func103, Tryz.ntmps103
    go_wp2_with fail
    go_ret
    exact ⟨rfl, rfl⟩
  · have hr : (((a + b) % m : Nat) : Int) = (a : Int) + (b : Int) := by
      rw [Nat.mod_eq_of_lt (by omega)]
      omega
    have h1 : ¬ (m : Int) ≤ (a : Int) + (b : Int) := by omega
    rw [hr]
    clear hr h ha hb hm
    go_enter Tryz.func103, Tryz.ntmps103
    go_wp2_with fail
    go_ret
    exact ⟨rfl, rfl⟩

theorem rprod4_any (a b m : Nat) (ha : a < m) (hb : b < 9223372036854775808) (hm : m < 4611686018427387904) (w : World) :
    Calls Tryz.prog 93 #[.int .i64 a, .int .i64 b, .int .i64 m] w fun e w' => e = .returned (.int .i64 (a * b % m : Nat)) ∧ w = w' := by
  have hlt : ∀ x, x % m < m := fun x => Nat.mod_lt _ (by omega)
  have Hlt := Lib.hid hlt
  have Ha := Lib.hid ha
  have Hb := Lib.hid hb
  have Hm := Lib.hid hm
  clear hlt ha hb hm
  go_enter Tryz.func93, Tryz.ntmps93
  go_wp2_with fail
  go_loop [0, 1, 7] (fun x y c => ∃ x' y' c' : Nat, x = .int .i64 x' ∧ y = .int .i64 y' ∧ c = .int .i64 c' ∧ Hid (x' < m ∧ c' < m ∧ y' < 9223372036854775808 ∧ (c' + x' * y') % m = a * b % m)) (fun _ y _ => (intOf y).toNat)
  case atStart => exact ⟨a, b, 0, rfl, rfl, rfl, Lib.hid ⟨Ha.out, by have := Ha.out; omega, Hb.out, by rw [Nat.zero_add]⟩⟩
  case round =>
    obtain ⟨x', y', c', rfl, rfl, rfl, H⟩ := hrel
    obtain ⟨h1, h2, h3, h4⟩ := H.out
    by_cases h0 : y' = 0
    · subst h0
      have Hf := Lib.hid (show c' = a * b % m by rw [← h4, Nat.mul_zero, Nat.add_zero, Nat.mod_eq_of_lt h2])
      clear h1 h2 h3 h4
      go_wp2_with fail
      go_ret
      exact ⟨by rw [Hf.out]; rfl, rfl⟩
    · have S := double_step m c' x' y'
      have P1 := Lib.hid (rsum4_any c' x' m h2 h1 Hm.out)
      have P2 := Lib.hid (rsum4_any x' x' m h1 h1 Hm.out)
      have hy0 : (0 : Int) < (y' : Int) := by omega
      have hyq : ((y' / 2 : Nat) : Int) = (y' : Int) / 2 := by omega
      have hdec : y' / 2 < y' := by omega
      have Hdec := Lib.hid hdec
      have Hyq := Lib.hid hyq
      have hy3 : (y' : Int) ≤ 9223372036854775807 := by omega
      by_cases hodd : y' % 2 = 1
      · rw [if_pos hodd] at S
        have e1 : ((y' : Int) % 2 == 1) = true := by rw [beq_iff_eq]; omega
        have HN := Lib.hid (⟨Hlt.out (x' + x'), Hlt.out (c' + x'), (show y' / 2 < 9223372036854775808 by omega), S.trans h4⟩ : (x' + x') % m < m ∧ (c' + x') % m < m ∧ y' / 2 < 9223372036854775808 ∧ ((c' + x') % m + (x' + x') % m * (y' / 2)) % m = a * b % m)
        generalize (x' + x') % m = xx at *
        generalize (c' + x') % m = cc at *
        clear h1 h2 h3 h4 S hodd h0 hdec hyq
        go_wp2_with fail
        refine (P1.out _).mono ?_
        rintro e w1 ⟨rfl, rfl⟩
        go_wp2_with fail
        refine (P2.out _).mono ?_
        rintro e w1 ⟨rfl, rfl⟩
        go_wp2_with fail
        go_round
        case rel => exact ⟨xx, y' / 2, cc, rfl, by rw [Hyq.out], rfl, HN⟩
        case measure => have := Hdec.out; have := Hyq.out; simp [intOf]; omega
      · rw [if_neg hodd] at S
        have e1 : ((y' : Int) % 2 == 1) = false := by rw [beq_eq_false_iff_ne]; omega
        have HN := Lib.hid (⟨Hlt.out (x' + x'), h2, (show y' / 2 < 9223372036854775808 by omega), S.trans h4⟩ : (x' + x') % m < m ∧ c' < m ∧ y' / 2 < 9223372036854775808 ∧ (c' + (x' + x') % m * (y' / 2)) % m = a * b % m)
        generalize (x' + x') % m = xx at *
        clear h1 h2 h3 h4 S hodd h0 hdec hyq P1
        go_wp2_with fail
        refine (P2.out _).mono ?_
        rintro e w1 ⟨rfl, rfl⟩
        go_wp2_with fail
        go_round
        case rel => exact ⟨xx, y' / 2, c', rfl, by rw [Hyq.out], rfl, HN⟩
        case measure => have := Hdec.out; have := Hyq.out; simp [intOf]; omega
end Go.Proofs.YtgklcfipgdbbgaaGreatDoor
