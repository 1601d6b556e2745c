/- The reference's codec at flat lists: numeral, unsigned, encode, Formed, Depth, Check, Encode. -/
import Derived.Test.YtgklcfipgdbbgaaGreatDoorM31
import Derived.Test.YtgklcfipgdbbgaaGreatDoorM20
namespace Go.Proofs.YtgklcfipgdbbgaaGreatDoor
open Go.RowKit
attribute [-go_sem] Builtin.append_

theorem Own.one {B : Nat} (w : World) (hB : B ≤ w.heap.size) (c : UInt8) : Own B (w.alloc (.cells #[.int .u8 (bn c)] 5)) (.slice (some ⟨w.heap.size, 0, none⟩) 1 1) [c] :=
  ⟨rfl, .inr ⟨w.heap.size, 1, #[.int .u8 (bn c)], rfl, hB, heap_new w _, Nat.le_refl _, by unfold maxLen; omega, rfl, rfl⟩⟩

theorem numB_ne (u : Nat) : numB u ≠ [] := by
  rw [numB]
  split <;> simp

set_option maxRecDepth 20000 in
theorem rnumeral_any : ∀ (u : Nat), u < 18446744073709551616 → ∀ w, Calls Tryz.prog 109 #[.int .u64 u] w (Made w.heap.size (numB u) w) := by
  intro u
  induction u using Nat.strongRecOn with
  | ind u ih =>
    intro hu w
    by_cases hlt : u < 128
    · have hO := Own.one w (Nat.le_refl _) (UInt8.ofNat u)
      have hB : Below w.heap.size w (w.alloc (.cells #[.int .u8 (bn (UInt8.ofNat u))] 5)) := (Below.refl _ w).alloc (Nat.le_refl _) _
      have e1 := wrap8_nat u
      have b1 : (u : Int) < 128 := by omega
      have HH := Lib.hid (And.intro hO (And.intro hB (numB_small u hlt)))
      clear hO hB ih hu hlt
      go_enter Tryz.func109, Tryz.ntmps109
      go_wp2_with fail
      go_ret
      exact ⟨_, rfl, by rw [HH.out.2.2]; exact HH.out.1, HH.out.2.1⟩
    · obtain ⟨c, hc⟩ : ∃ c, c = UInt8.ofNat (u % 128 + 128) := ⟨_, rfl⟩
      have e1 := wrap8_nat (u % 128 + 128)
      rw [← hc, show ((u % 128 + 128 : Nat) : Int) = (u : Int) % 128 + 128 by omega] at e1
      have e2 : IntKind.u64.wrap ((u : Int) % 128 + 128) = (u : Int) % 128 + 128 := by rw [IntKind.wrap_u64]; omega
      have b1 : ¬ (u : Int) < 128 := by omega
      have e3 : IntKind.u64.wrap ((u : Int) / 128) = (u : Int) / 128 := by rw [IntKind.wrap_u64]; omega
      obtain ⟨w1, hw1⟩ : ∃ x, x = w.alloc (.cells #[.int .u8 (bn c)] 5) := ⟨_, rfl⟩
      have hO1 : Own w.heap.size w1 (.slice (some ⟨w.heap.size, 0, none⟩) 1 1) [c] := by rw [hw1]; exact Own.one w (Nat.le_refl _) c
      have hB1 : Below w.heap.size w w1 := by rw [hw1]; exact (Below.refl _ w).alloc (Nat.le_refl _) _
      have C := ih (u / 128) (by omega) (by omega) w1
      rw [show ((u / 128 : Nat) : Int) = (u : Int) / 128 by omega] at C
      replace C := Lib.hid C
      have HN := Lib.hid (And.intro (show numB u = [c] ++ numB (u / 128) by rw [numB_big u hlt, hc]; rfl) (And.intro hO1 (And.intro hB1 (numB_length 10 (u / 128) (by omega)))))
      clear hO1 hB1 hc hu hlt ih
      go_enter Tryz.func109, Tryz.ntmps109
      go_wp2_with fail
      rw [← hw1]
      clear hw1
      refine C.out.mono ?_
      rintro e w2 ⟨v2, rfl, hO2, hB2⟩
      obtain ⟨g2, cap2, rfl, hc2, hg2, hby⟩ := hO2.shape (numB_ne _)
      have hO1 := HN.out.2.1.below hB2 (Nat.le_refl _)
      have hBw := HN.out.2.2.1.trans (hB2.mono HN.out.2.2.1.size)
      obtain ⟨v3, w3, E3, hO3, hG3⟩ := append_own (m := numB (u / 128)) hO1 hBw.size g2 0 cap2 hby (by have := HN.out.2.2.2; simp; omega)
      have hB3 := hBw.trans (hG3.below hO1 hBw.size)
      rw [← HN.out.1] at hO3
      have H3 := Lib.hid (And.intro hO3 hB3)
      clear hO3 hB3 hG3 hO1 hBw hby hg2 hc2 hO2 hB2 C
      go_wp2_with fail
      go_ret
      exact ⟨_, rfl, H3.out.1, H3.out.2⟩

theorem xor_nat (a b : Nat) (ha : a < 18446744073709551616) (hb : b < 18446744073709551616) : bits .xor .u64 (a : Int) (b : Int) = ((a ^^^ b : Nat) : Int) := by
  show IntKind.u64.wrap ((BitVec.ofInt 64 (a : Int) ^^^ BitVec.ofInt 64 (b : Int)).toNat : Int) = _
  rw [BitVec.toNat_xor, BitVec.ofInt_natCast, BitVec.ofInt_natCast, BitVec.toNat_ofNat, BitVec.toNat_ofNat, Nat.mod_eq_of_lt ha, Nat.mod_eq_of_lt hb, IntKind.wrap_u64]
  have : a ^^^ b < 2 ^ 64 := Nat.xor_lt_two_pow ha hb
  omega
theorem xor_ones (a : Nat) (ha : a < 18446744073709551616) : a ^^^ 18446744073709551615 = 18446744073709551615 - a := by
  have h : (BitVec.ofNat 64 a ^^^ BitVec.allOnes 64) = ~~~ BitVec.ofNat 64 a := BitVec.xor_allOnes
  have h2 := congrArg BitVec.toNat h
  rw [BitVec.toNat_xor, BitVec.toNat_not, BitVec.toNat_ofNat, BitVec.toNat_allOnes, Nat.mod_eq_of_lt ha] at h2
  exact h2
theorem zig_nonneg (n : Int) (h0 : 0 ≤ n) (h1 : n ≤ 9223372036854775807) : ((zig n : Nat) : Int) = 2 * n := by
  rw [(zig_eq n).1]
  have e1 : IntKind.u64.wrap (IntKind.u64.wrap n * 2) = ((2 * n.toNat : Nat) : Int) := by rw [IntKind.wrap_u64, IntKind.wrap_u64]; omega
  have e2 : IntKind.u64.wrap (n / 9223372036854775808) = ((0 : Nat) : Int) := by rw [IntKind.wrap_u64]; omega
  rw [e1, e2, xor_nat _ _ (by omega) (by omega), Nat.xor_zero]
  omega
theorem zig_neg (n : Int) (h0 : n < 0) (h1 : -9223372036854775808 ≤ n) : ((zig n : Nat) : Int) = 2 * (-(n + 1)) + 1 := by
  rw [(zig_eq n).1]
  have e1 : IntKind.u64.wrap (IntKind.u64.wrap n * 2) = (((2 * n + 18446744073709551616) % 18446744073709551616).toNat : Int) := by rw [IntKind.wrap_u64, IntKind.wrap_u64]; omega
  have e2 : IntKind.u64.wrap (n / 9223372036854775808) = ((18446744073709551615 : Nat) : Int) := by rw [IntKind.wrap_u64]; omega
  rw [e1, e2, xor_nat _ _ (by omega) (by omega), xor_ones _ (by omega)]
  omega

theorem runsigned_any (n : Int) (h0 : -9223372036854775808 ≤ n) (h1 : n ≤ 9223372036854775807) (w : World) : Calls Tryz.prog 110 #[.int .i64 n] w fun e w' => e = .returned (.int .u64 (zig n)) ∧ w = w' := by
  by_cases hn : 0 ≤ n
  · have hz := zig_nonneg n hn h1
    have e1 : IntKind.u64.wrap n = n := by rw [IntKind.wrap_u64]; omega
    have e2 : IntKind.u64.wrap (2 * n) = 2 * n := by rw [IntKind.wrap_u64]; omega
    rw [hz]
    clear hz
    go_enter Tryz.func110, Tryz.ntmps110
    go_wp2_with fail
    go_ret
    exact ⟨rfl, rfl⟩
  · have hz := zig_neg n (by omega) h0
    have e1 : IntKind.i64.wrap (n + 1) = n + 1 := wrap_i64_small' (by omega) (by omega)
    have e2 : IntKind.i64.wrap (-(n + 1)) = -(n + 1) := wrap_i64_small' (by omega) (by omega)
    have e3 : IntKind.u64.wrap (-(n + 1)) = -(n + 1) := by rw [IntKind.wrap_u64]; omega
    have e4 : IntKind.u64.wrap (2 * -(n + 1)) = 2 * -(n + 1) := by rw [IntKind.wrap_u64]; omega
    have e5 : IntKind.u64.wrap (2 * -(n + 1) + 1) = 2 * -(n + 1) + 1 := by rw [IntKind.wrap_u64]; omega
    rw [hz]
    clear hz
    go_enter Tryz.func110, Tryz.ntmps110
    go_wp2_with fail
    go_ret
    exact ⟨rfl, rfl⟩
end Go.Proofs.YtgklcfipgdbbgaaGreatDoor
