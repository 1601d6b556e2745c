/- Long division of 128 by 64 bits, in plain Lean: what the loops of Div64 do. No program is in sight. -/
import Derived.Deep.QuietTactic
import Derived.BigQuiet
import Derived.Deep.CutBlock
import Derived.Deep.DeepCutAuto
import Derived.Lib.Hide
import Derived.Test.YtgklcfipgdbbgaaGreatDoorM4
import Derived.Test.YtgklcfipgdbbgaaGreatDoorM1
namespace Chart

/-- Is q at most the quotient? -/
theorem dig_le {B y y1 y0 u v q r : Nat} (hB : 0 < B) (hy : y = y1 * B + y0) (hy1 : 0 < y1) (hr : q * y1 + r = u) : q ≤ (u * B + v) / y ↔ q * y0 ≤ B * r + v := by
  have h0 : 0 < y := by
    have := Nat.mul_pos hy1 hB
    omega
  rw [Nat.le_div_iff_mul_le h0, hy, ← hr, Nat.mul_add, Nat.add_mul, ← Nat.mul_assoc, Nat.mul_comm r B]
  omega

theorem quo_lt {B y u v : Nat} (hu : u < y) (hv : v < B) : (u * B + v) / y < B := by
  rw [Nat.div_lt_iff_lt_mul (by omega)]
  have := Nat.mul_le_mul_left B (show u + 1 ≤ y from hu)
  rw [Nat.mul_add, Nat.mul_one, Nat.mul_comm B u] at this
  omega

theorem dig_start {B y y1 y0 u v : Nat} (hy : y = y1 * B + y0) (hy1 : 0 < y1) (hv : v < B) : (u * B + v) / y ≤ u / y1 := by
  rw [Nat.le_div_iff_mul_le hy1]
  have h := Nat.div_mul_le_self (u * B + v) y
  have e : (u * B + v) / y * y = (u * B + v) / y * y1 * B + (u * B + v) / y * y0 := by
    conv => lhs; rw [hy, Nat.mul_add, ← Nat.mul_assoc]
    rw [← hy]
  rw [e] at h
  generalize (u * B + v) / y = q at *
  have h2 : q * y1 * B < (u + 1) * B := by rw [Nat.add_mul, Nat.one_mul]; omega
  have := Nat.lt_of_mul_lt_mul_right h2
  omega

theorem start_le {B y y1 y0 u : Nat} (hy : y = y1 * B + y0) (hy1 : B ≤ 2 * y1) (hB : 0 < B) (h0 : y0 < B) (hu : u < y) : u / y1 ≤ B + 2 := by
  apply Nat.le_of_lt_succ
  rw [Nat.div_lt_iff_lt_mul (by omega), Nat.succ_eq_add_one, Nat.add_mul, Nat.add_mul, Nat.mul_comm B y1]
  omega

/-- The test of the loop says no: the quotient is found. -/
theorem dig_found {B y y1 y0 u v q r : Nat} (hB : 0 < B) (hy : y = y1 * B + y0) (hy1 : 0 < y1) (hr : q * y1 + r = u) (hq : (u * B + v) / y ≤ q) (h : ¬ q * y0 > B * r + v) :
    q = (u * B + v) / y := Nat.le_antisymm ((dig_le hB hy hy1 hr).2 (by omega)) hq

/-- The test of the loop says yes: one less is still enough. -/
theorem dig_less {B y y1 y0 u v q r : Nat} (hB : 0 < B) (hy : y = y1 * B + y0) (hy1 : 0 < y1) (hu : u < y) (hv : v < B) (hr : q * y1 + r = u) (hq : (u * B + v) / y ≤ q)
    (h : q ≥ B ∨ q * y0 > B * r + v) : 0 < q ∧ (u * B + v) / y ≤ q - 1 ∧ (q - 1) * y1 + (r + y1) = u := by
  have h1 : (u * B + v) / y ≠ q := by
    rcases h with h | h
    · have := quo_lt hu hv
      generalize (u * B + v) / y = k at *
      omega
    · intro e
      have := (dig_le (v := v) hB hy hy1 hr).1 (by rw [e]; exact Nat.le_refl _)
      omega
  generalize (u * B + v) / y = m at *
  have h0 : 0 < q := by omega
  refine ⟨h0, by omega, ?_⟩
  obtain ⟨k, rfl⟩ : ∃ k, q = k + 1 := ⟨q - 1, by omega⟩
  rw [Nat.add_mul, Nat.one_mul] at hr
  simp only [Nat.add_sub_cancel]
  omega

/-- The loop is left in its middle: the quotient is found. -/
theorem dig_break {B y y1 y0 u v q r : Nat} (hB : 0 < B) (hy : y = y1 * B + y0) (hy1 : 0 < y1) (h0 : y0 < B) (hr : q * y1 + r = u) (hq : (u * B + v) / y ≤ q) (hq2 : q ≤ B + 1)
    (h : B ≤ r) : q = (u * B + v) / y := by
  refine dig_found hB hy hy1 hr hq ?_
  have h1 : q * y0 ≤ (B + 1) * y0 := Nat.mul_le_mul_right _ hq2
  have h2 : B * (y0 + 1) ≤ B * B := Nat.mul_le_mul_left _ h0
  have h3 : B * B ≤ B * r := Nat.mul_le_mul_left _ h
  rw [Nat.add_mul] at h1
  rw [Nat.mul_add] at h2
  omega

/-- What is left, modulo M. -/
theorem rest_mod {B M y u v q : Nat} (hy : y ≤ M) (h0 : 0 < y) (hq : q = (u * B + v) / y) :
    ((((u * B : Nat) : Int) + (v : Int)) - ((q * y : Nat) : Int)) % (M : Int) = (((u * B + v) % y : Nat) : Int) := by
  have h1 := Nat.div_add_mod (u * B + v) y
  have h2 := Nat.mod_lt (u * B + v) h0
  rw [← hq, Nat.mul_comm y q] at h1
  generalize q * y = m at *
  generalize (u * B + v) % y = k at *
  have : (((u * B : Nat) : Int) + (v : Int)) - (m : Int) = (k : Int) := by omega
  rw [this]
  exact Int.emod_eq_of_lt (by omega) (by omega)

/-- The two digits together. -/
theorem two_digits {B U y : Nat} (h0 : 0 < y) (u v w : Nat) (hU : U = (u * B + v) * B + w) :
    U / y = (u * B + v) / y * B + ((u * B + v) % y * B + w) / y ∧ U % y = ((u * B + v) % y * B + w) % y := by
  have h1 := Nat.div_add_mod (u * B + v) y
  generalize (u * B + v) / y = q at *
  generalize (u * B + v) % y = k at *
  have e : U = (k * B + w) + y * (q * B) := by
    rw [hU, ← h1, Nat.add_mul, ← Nat.mul_assoc]
    omega
  rw [e]
  constructor
  · rw [Nat.add_mul_div_left _ _ h0, Nat.add_comm]
  · rw [Nat.add_mul_mod_self_left]

/-- Shifting both by the same number changes only the rest. -/
theorem shift_both {X y k : Nat} (h0 : 0 < k) : (X * k) / (y * k) = X / y ∧ (X * k) % (y * k) / k = X % y := by
  refine ⟨Nat.mul_div_mul_right _ _ h0, ?_⟩
  rw [Nat.mul_mod_mul_right, Nat.mul_div_cancel _ h0]

theorem two_halves {U u L v v0 B M : Nat} (hM : M = B * B) (hs : U = u * M + L) (hv : v = L / B) (hv0 : v0 = L % B) : U = (u * B + v) * B + v0 := by
  have := Nat.div_add_mod' L B
  rw [Nat.add_mul, Nat.mul_assoc, ← hM, hs, hv, hv0]
  omega

end Chart

/- The contract of math/bits.Div64: quotient and rest of 128 by 64 bits. -/
namespace Go.Proofs.YtgklcfipgdbbgaaGreatDoor
open Go.RowKit

theorem leading_s (x s : Nat) (h1 : x ≤ 18446744073709551615) (hs : s + Lib.bitLen x = 64) (w : World) :
    Calls Tryz.prog 83 #[.int .u64 x] w fun e w' => e = .returned (.int .i64 (s : Int)) ∧ w = w' :=
  (leading_any x h1 w).mono fun _ _ ⟨he, hw⟩ => ⟨by rw [he]; exact ret_int (by omega), hw.symm⟩

theorem Below.of_drewN (w : World) (n : Nat) (B : Nat) : Below B w (w.drewN n) := by
  refine ⟨rfl, rfl, rfl, Nat.le_refl _, fun _ _ => rfl⟩

theorem div64_small (l y : Nat) (hy0 : 0 < y) (hl : l < 18446744073709551616) (hy : y < 18446744073709551616) (w : World) :
    Calls Tryz.prog 62 #[.int .u64 0, .int .u64 l, .int .u64 y] w fun e w' => e = .returned (.tuple #[.int .u64 ((l / y : Nat) : Int), .int .u64 ((l % y : Nat) : Int)]) ∧ Below w.heap.size w w' := by
  have h0 : ((y : Int) == 0) = false := beq_eq_false_iff_ne.2 (by omega)
  have h1 : ¬ (y : Int) ≤ 0 := by omega
  have h2 : ¬ (y : Int) = 0 := by omega
  have h3 : IntKind.u64.wrap ((l : Int) / (y : Int)) = (l : Int) / (y : Int) := by
    have e : (l : Int) / (y : Int) = ((l / y : Nat) : Int) := by simp
    have hd := Nat.div_le_self l y
    rw [e, IntKind.wrap_u64]
    generalize l / y = k at *
    omega
  go_enter Tryz.func62, Tryz.ntmps62
  go_wp2
  go_quiet (fail)
  go_wp2
  go_ret2
  exact ⟨by simp, Below.of_drewN _ _ _⟩

set_option maxRecDepth 100000 in
set_option maxHeartbeats 4000000 in
theorem div64_big (h l y s Y y1 y0 H L u v v0 q0 p0 r0 D1 R1 q1 p1 r1 D2 R2 A N1 M1 E q' A2 N2 M2 : Nat) (h0 : 0 < h) (hh : h < y) (_hl : l < 18446744073709551616) (hy : y < 18446744073709551616) (hs : s + Lib.bitLen y = 64) (hs63 : s ≤ 63)
    (e1 : IntKind.u64.wrap ((y : Int) * 2 ^ s) = (Y : Int)) (e2 : bits .and .u64 (Y : Int) 4294967295 = (y0 : Int)) (e3 : (Y : Int) / 4294967296 = (y1 : Int)) (g1 : 0 < (y1 : Int))
    (e4 : IntKind.u64.wrap ((h : Int) * 2 ^ s) = (H : Int)) (e5 : bits .or .u64 (H : Int) ((l : Int) / 2 ^ (64 - s)) = (u : Int)) (e6 : IntKind.u64.wrap ((l : Int) * 2 ^ s) = (L : Int))
    (e7 : (L : Int) / 4294967296 = (v : Int)) (e8 : bits .and .u64 (L : Int) 4294967295 = (v0 : Int))
    (e9 : IntKind.u64.wrap ((u : Int) / (y1 : Int)) = (q0 : Int)) (e10 : IntKind.u64.wrap ((q0 : Int) * (y1 : Int)) = (p0 : Int)) (e11 : IntKind.u64.wrap ((u : Int) - (p0 : Int)) = (r0 : Int))
    (hY : Y = y1 * 4294967296 + y0) (hy0 : y0 < 4294967296) (hy1 : y1 < 4294967296) (hu : u < Y) (hv : v < 4294967296)
    (hq0 : q0 * y1 + r0 = u) (hq0' : (u * 4294967296 + v) / Y ≤ q0) (hq0'' : q0 ≤ 4294967298) (hr0 : r0 < 4294967296) (hD1 : D1 = (u * 4294967296 + v) / Y)
    (e12 : IntKind.u64.wrap ((u : Int) * 4294967296) = (A : Int)) (e13 : IntKind.u64.wrap ((A : Int) + (v : Int)) = (N1 : Int)) (e14 : IntKind.u64.wrap ((D1 : Int) * (Y : Int)) = (M1 : Int)) (e15 : IntKind.u64.wrap ((N1 : Int) - (M1 : Int)) = (R1 : Int))
    (e16 : IntKind.u64.wrap ((R1 : Int) / (y1 : Int)) = (q1 : Int)) (e17 : IntKind.u64.wrap ((q1 : Int) * (y1 : Int)) = (p1 : Int)) (e18 : IntKind.u64.wrap ((R1 : Int) - (p1 : Int)) = (r1 : Int))
    (hR1 : R1 < Y) (hv0 : v0 < 4294967296)
    (hq1 : q1 * y1 + r1 = R1) (hq1' : (R1 * 4294967296 + v0) / Y ≤ q1) (hq1'' : q1 ≤ 4294967298) (hr1 : r1 < 4294967296) (hD2 : D2 = (R1 * 4294967296 + v0) / Y)
    (e19 : IntKind.u64.wrap ((D1 : Int) * 4294967296) = (E : Int)) (e20 : IntKind.u64.wrap ((E : Int) + (D2 : Int)) = (q' : Int)) (e21 : IntKind.u64.wrap ((R1 : Int) * 4294967296) = (A2 : Int))
    (e22 : IntKind.u64.wrap ((A2 : Int) + (v0 : Int)) = (N2 : Int)) (e23 : IntKind.u64.wrap ((D2 : Int) * (Y : Int)) = (M2 : Int)) (e24 : IntKind.u64.wrap ((N2 : Int) - (M2 : Int)) = (R2 : Int))
    (hQ : q' = (h * 18446744073709551616 + l) / y) (hR : R2 / 2 ^ s = (h * 18446744073709551616 + l) % y)
    (w : World) :
    Calls Tryz.prog 62 #[.int .u64 h, .int .u64 l, .int .u64 y] w fun e w' => e = .returned (.tuple #[.int .u64 (((h * 18446744073709551616 + l) / y : Nat) : Int), .int .u64 (((h * 18446744073709551616 + l) % y : Nat) : Int)]) ∧ Below w.heap.size w w' := by
  have b0 : ((y : Int) == 0) = false := beq_eq_false_iff_ne.2 (by omega)
  have b1 : ¬ (y : Int) ≤ (h : Int) := by omega
  have b2 : ((h : Int) == 0) = false := beq_eq_false_iff_ne.2 (by omega)
  have b4 : ¬ (y1 : Int) = 0 := by omega
  have HY := Lib.hid hY; clear hY
  have HD1 := Lib.hid hD1; clear hD1
  have Hs := Lib.hid hs; clear hs
  have Hq0 := Lib.hid hq0; clear hq0
  have HD2 := Lib.hid hD2; clear hD2
  have Hq1 := Lib.hid hq1; clear hq1
  have HQ' := Lib.hid hQ; clear hQ
  have HR' := Lib.hid hR; clear hR
  go_enter Tryz.func62, Tryz.ntmps62
  go_upto_block 0 with (go_at_call 83; refine (leading_s y s (by omega) Hs.out _).mono ?_; rintro e w' ⟨rfl, rfl⟩)
  go_cut [15] (fun q wx => q = .int .u64 (D1 : Int) ∧ w = wx)
  case first =>
    go_wp2_with fail
    go_loop [15, 16] (fun qv rv => ∃ q r : Int, qv = .int .u64 q ∧ rv = .int .u64 r ∧ 0 ≤ q ∧ 0 ≤ r ∧ Hid (q.toNat * y1 + r.toNat = u) ∧ Hid ((u * 4294967296 + v) / Y ≤ q.toNat) ∧ q ≤ 4294967298 ∧ r < 4294967296) (fun qv _ => (intOf qv).toNat)
    case atStart => exact ⟨q0, r0, rfl, rfl, by omega, by omega, Hq0.out, Lib.hid hq0', by omega, by omega⟩
    case round =>
      obtain ⟨q, r, rfl, rfl, hq1, hr1, Hq, HQ, hq2, hr⟩ := hrel
      have hyi : (y1 : Int) < 4294967296 := by omega
      clear hq0'
      by_cases hq : 4294967296 ≤ q
      · obtain ⟨f1, f2, f3⟩ := Chart.dig_less (B := 4294967296) (by omega) HY.out (by omega) hu hv Hq.out HQ.out (.inl (by omega))
        have F2 := Lib.hid f2; have F3 := Lib.hid f3
        clear f1 f2 f3 HQ Hq
        by_cases hb : 4294967296 ≤ r + (y1 : Int)
        · go_wp2_with fail
          go_meet
          have h6 := Chart.dig_break (B := 4294967296) (by omega) HY.out (by omega) hy0 F3.out F2.out (by omega) (by omega)
          rw [← HD1.out] at h6
          exact ⟨by congr 1; omega, rfl⟩
        · go_wp2_with fail
          go_round
          case rel => exact ⟨q - 1, r + y1, rfl, rfl, by omega, by omega, Lib.hid (by have := F3.out; rw [show (q - 1).toNat = q.toNat - 1 by omega, show (r + (y1 : Int)).toNat = r.toNat + y1 by omega]; exact this), Lib.hid (by have := F2.out; rw [show (q - 1).toNat = q.toNat - 1 by omega]; exact this), by omega, by omega⟩
          case measure => simp [intOf]; omega
      · have hm : 0 ≤ q * (y0 : Int) ∧ q * (y0 : Int) < 18446744073709551616 := by
          refine ⟨Int.mul_nonneg hq1 (by omega), ?_⟩
          have h7 := Int.mul_le_mul (show q ≤ 4294967295 by omega) (show (y0 : Int) ≤ 4294967295 by omega) (by omega) (by omega)
          omega
        have hm' : IntKind.u64.wrap (q * (y0 : Int)) = q * (y0 : Int) := by rw [IntKind.wrap_u64]; omega
        have hcast : ((q.toNat * y0 : Nat) : Int) = q * (y0 : Int) := by rw [Int.natCast_mul, Int.toNat_of_nonneg hq1]
        by_cases hc : 4294967296 * r + (v : Int) < q * (y0 : Int)
        · obtain ⟨f1, f2, f3⟩ := Chart.dig_less (B := 4294967296) (by omega) HY.out (by omega) hu hv Hq.out HQ.out (.inr (by omega))
          have F2 := Lib.hid f2; have F3 := Lib.hid f3; have F1 := Lib.hid f1
          clear f1 f2 f3 HQ Hq hcast
          have F4 : 1 ≤ q := by have := F1.out; omega
          by_cases hb : 4294967296 ≤ r + (y1 : Int)
          · go_wp2_with fail
            go_meet
            have h6 := Chart.dig_break (B := 4294967296) (by omega) HY.out (by omega) hy0 F3.out F2.out (by omega) (by omega)
            rw [← HD1.out] at h6
            exact ⟨by congr 1; omega, rfl⟩
          · go_wp2_with fail
            go_round
            case rel => exact ⟨q - 1, r + y1, rfl, rfl, by omega, by omega, Lib.hid (by have := F3.out; rw [show (q - 1).toNat = q.toNat - 1 by omega, show (r + (y1 : Int)).toNat = r.toNat + y1 by omega]; exact this), Lib.hid (by have := F2.out; rw [show (q - 1).toNat = q.toNat - 1 by omega]; exact this), by omega, by omega⟩
            case measure => simp [intOf]; omega
        · have HC := Lib.hid hcast; clear hcast
          go_wp2_with fail
          go_meet
          have h6 := Chart.dig_found (B := 4294967296) (v := v) (by omega) HY.out (by omega) Hq.out HQ.out (by have := HC.out; omega)
          rw [← HD1.out] at h6
          exact ⟨by congr 1; omega, rfl⟩
  case rest =>
    obtain ⟨rfl, rfl⟩ := hcut
    clear e1 e2 e3 e4 e5 e6 e7 e8 e9 e10 e11 hq0'
    go_upto_block 2 with fail
    go_cut [18] (fun q wx => q = .int .u64 (D2 : Int) ∧ w = wx)
    case first =>
      go_wp2_with fail
      go_loop [18, 16] (fun qv rv => ∃ q r : Int, qv = .int .u64 q ∧ rv = .int .u64 r ∧ 0 ≤ q ∧ 0 ≤ r ∧ Hid (q.toNat * y1 + r.toNat = R1) ∧ Hid ((R1 * 4294967296 + v0) / Y ≤ q.toNat) ∧ q ≤ 4294967298 ∧ r < 4294967296) (fun qv _ => (intOf qv).toNat)
      case atStart => exact ⟨q1, r1, rfl, rfl, by omega, by omega, Hq1.out, Lib.hid hq1', by omega, by omega⟩
      case round =>
        obtain ⟨q, r, rfl, rfl, hqa, hra, Hq, HQ, hq2, hr⟩ := hrel
        have hyi : (y1 : Int) < 4294967296 := by omega
        clear hq1'
        by_cases hq : 4294967296 ≤ q
        · obtain ⟨f1, f2, f3⟩ := Chart.dig_less (B := 4294967296) (by omega) HY.out (by omega) hR1 hv0 Hq.out HQ.out (.inl (by omega))
          have F2 := Lib.hid f2; have F3 := Lib.hid f3
          clear f1 f2 f3 HQ Hq
          by_cases hb : 4294967296 ≤ r + (y1 : Int)
          · go_wp2_with fail
            go_meet
            have h6 := Chart.dig_break (B := 4294967296) (by omega) HY.out (by omega) hy0 F3.out F2.out (by omega) (by omega)
            rw [← HD2.out] at h6
            exact ⟨by congr 1; omega, rfl⟩
          · go_wp2_with fail
            go_round
            case rel => exact ⟨q - 1, r + y1, rfl, rfl, by omega, by omega, Lib.hid (by have := F3.out; rw [show (q - 1).toNat = q.toNat - 1 by omega, show (r + (y1 : Int)).toNat = r.toNat + y1 by omega]; exact this), Lib.hid (by have := F2.out; rw [show (q - 1).toNat = q.toNat - 1 by omega]; exact this), by omega, by omega⟩
            case measure => simp [intOf]; omega
        · have hm : 0 ≤ q * (y0 : Int) ∧ q * (y0 : Int) < 18446744073709551616 := by
            refine ⟨Int.mul_nonneg hqa (by omega), ?_⟩
            have h7 := Int.mul_le_mul (show q ≤ 4294967295 by omega) (show (y0 : Int) ≤ 4294967295 by omega) (by omega) (by omega)
            omega
          have hm' : IntKind.u64.wrap (q * (y0 : Int)) = q * (y0 : Int) := by rw [IntKind.wrap_u64]; omega
          have hcast : ((q.toNat * y0 : Nat) : Int) = q * (y0 : Int) := by rw [Int.natCast_mul, Int.toNat_of_nonneg hqa]
          by_cases hc : 4294967296 * r + (v0 : Int) < q * (y0 : Int)
          · obtain ⟨f1, f2, f3⟩ := Chart.dig_less (B := 4294967296) (by omega) HY.out (by omega) hR1 hv0 Hq.out HQ.out (.inr (by omega))
            have F2 := Lib.hid f2; have F3 := Lib.hid f3; have F1 := Lib.hid f1
            clear f1 f2 f3 HQ Hq hcast
            have F4 : 1 ≤ q := by have := F1.out; omega
            by_cases hb : 4294967296 ≤ r + (y1 : Int)
            · go_wp2_with fail
              go_meet
              have h6 := Chart.dig_break (B := 4294967296) (by omega) HY.out (by omega) hy0 F3.out F2.out (by omega) (by omega)
              rw [← HD2.out] at h6
              exact ⟨by congr 1; omega, rfl⟩
            · go_wp2_with fail
              go_round
              case rel => exact ⟨q - 1, r + y1, rfl, rfl, by omega, by omega, Lib.hid (by have := F3.out; rw [show (q - 1).toNat = q.toNat - 1 by omega, show (r + (y1 : Int)).toNat = r.toNat + y1 by omega]; exact this), Lib.hid (by have := F2.out; rw [show (q - 1).toNat = q.toNat - 1 by omega]; exact this), by omega, by omega⟩
              case measure => simp [intOf]; omega
          · have HC := Lib.hid hcast; clear hcast
            go_wp2_with fail
            go_meet
            have h6 := Chart.dig_found (B := 4294967296) (v := v0) (by omega) HY.out (by omega) Hq.out HQ.out (by have := HC.out; omega)
            rw [← HD2.out] at h6
            exact ⟨by congr 1; omega, rfl⟩
    case rest =>
      obtain ⟨rfl, rfl⟩ := hcut
      clear e12 e13 e14 e15 e16 e17 e18 hq1'
      go_wp2_with fail
      go_ret2
      refine ⟨?_, Below.refl _ _⟩
      rw [← HQ'.out, ← HR'.out]
      simp

end Go.Proofs.YtgklcfipgdbbgaaGreatDoor

/- The contract of math/bits.Div64, for all numbers. -/
namespace Go.Proofs.YtgklcfipgdbbgaaGreatDoor
open Go.RowKit

theorem wrap_small (a : Nat) (ha : a < 18446744073709551616) : IntKind.u64.wrap (a : Int) = (a : Int) := by rw [IntKind.wrap_u64]; omega
theorem wrap_big (a : Nat) : IntKind.u64.wrap (a : Int) = ((a % 18446744073709551616 : Nat) : Int) := by rw [IntKind.wrap_u64]; omega

theorem wrap_rest (y u v : Nat) (hy : y < 18446744073709551616) (h0 : 0 < y) :
    IntKind.u64.wrap (((u * 4294967296 % 18446744073709551616 + v) % 18446744073709551616 : Nat) - (((u * 4294967296 + v) / y * y % 18446744073709551616 : Nat) : Int)) = (((u * 4294967296 + v) % y : Nat) : Int) := by
  have h := Chart.rest_mod (B := 4294967296) (M := 18446744073709551616) (u := u) (v := v) (Nat.le_of_lt hy) h0 rfl
  rw [IntKind.wrap_u64, ← h]
  generalize (u * 4294967296 + v) / y * y = m
  generalize u * 4294967296 = a
  omega

theorem and_low (a : Nat) (ha : a < 18446744073709551616) : bits .and .u64 (a : Int) 4294967295 = ((a % 4294967296 : Nat) : Int) := Bits64.maskN a ha

theorem div64_last (h l y s K Y H L u U : Nat) (h0 : 0 < h) (hh : h < y) (hl : l < 18446744073709551616) (hy : y < 18446744073709551616) (hs : s + Lib.bitLen y = 64) (hs63 : s ≤ 63) (hK : K = 2 ^ s)
    (e1 : IntKind.u64.wrap ((y : Int) * 2 ^ s) = (Y : Int)) (e4 : IntKind.u64.wrap ((h : Int) * 2 ^ s) = (H : Int)) (e5 : bits .or .u64 (H : Int) ((l : Int) / 2 ^ (64 - s)) = (u : Int)) (e6 : IntKind.u64.wrap ((l : Int) * 2 ^ s) = (L : Int))
    (hL' : L < 18446744073709551616) (hY1 : Y < 18446744073709551616) (hY2 : 18446744073709551616 ≤ 2 * Y) (hsplit : U = u * 18446744073709551616 + L) (hX : U < Y * 18446744073709551616)
    (s1 : U / Y = (h * 18446744073709551616 + l) / y) (s2 : U % Y / K = (h * 18446744073709551616 + l) % y) (w : World) :
    Calls Tryz.prog 62 #[.int .u64 h, .int .u64 l, .int .u64 y] w fun e w' => e = .returned (.tuple #[.int .u64 (((h * 18446744073709551616 + l) / y : Nat) : Int), .int .u64 (((h * 18446744073709551616 + l) % y : Nat) : Int)]) ∧ Below w.heap.size w w' := by
  obtain ⟨y1, hy1⟩ : ∃ a, a = Y / 4294967296 := ⟨_, rfl⟩
  obtain ⟨y0, hy0⟩ : ∃ a, a = Y % 4294967296 := ⟨_, rfl⟩
  obtain ⟨v, hv⟩ : ∃ a, a = L / 4294967296 := ⟨_, rfl⟩
  obtain ⟨v0, hv0⟩ : ∃ a, a = L % 4294967296 := ⟨_, rfl⟩
  have huY : u < Y := by omega
  have hU : U = (u * 4294967296 + v) * 4294967296 + v0 := Chart.two_halves (M := 18446744073709551616) (by decide) hsplit hv hv0
  have hYd : Y = y1 * 4294967296 + y0 := by omega
  have g1 : 2147483648 ≤ y1 := by omega
  have g2 : y1 < 4294967296 := by omega
  have g3 : y0 < 4294967296 := by omega
  have g4 : v < 4294967296 := by omega
  have g5 : v0 < 4294967296 := by omega
  obtain ⟨q0, hq0⟩ : ∃ a, a = u / y1 := ⟨_, rfl⟩
  obtain ⟨r0, hr0⟩ : ∃ a, a = u % y1 := ⟨_, rfl⟩
  have k1 : q0 ≤ 4294967298 := hq0 ▸ Chart.start_le (B := 4294967296) hYd (by omega) (by omega) g3 huY
  have k2 : q0 * y1 + r0 = u := by rw [hq0, hr0]; exact Nat.div_add_mod' u y1
  have k3 : r0 < y1 := hr0 ▸ Nat.mod_lt u (by omega)
  obtain ⟨D1, hD1⟩ : ∃ a, a = (u * 4294967296 + v) / Y := ⟨_, rfl⟩
  obtain ⟨R1, hR1⟩ : ∃ a, a = (u * 4294967296 + v) % Y := ⟨_, rfl⟩
  have k4 : D1 ≤ q0 := hD1 ▸ hq0 ▸ Chart.dig_start (B := 4294967296) hYd (by omega) g4
  have k5 : D1 < 4294967296 := hD1 ▸ Chart.quo_lt huY g4
  have k6 : R1 < Y := hR1 ▸ Nat.mod_lt _ (by omega)
  obtain ⟨q1, hq1⟩ : ∃ a, a = R1 / y1 := ⟨_, rfl⟩
  obtain ⟨r1, hr1⟩ : ∃ a, a = R1 % y1 := ⟨_, rfl⟩
  have m1 : q1 ≤ 4294967298 := hq1 ▸ Chart.start_le (B := 4294967296) hYd (by omega) (by omega) g3 k6
  have m2 : q1 * y1 + r1 = R1 := by rw [hq1, hr1]; exact Nat.div_add_mod' R1 y1
  have m3 : r1 < y1 := hr1 ▸ Nat.mod_lt R1 (by omega)
  obtain ⟨D2, hD2⟩ : ∃ a, a = (R1 * 4294967296 + v0) / Y := ⟨_, rfl⟩
  obtain ⟨R2, hR2⟩ : ∃ a, a = (R1 * 4294967296 + v0) % Y := ⟨_, rfl⟩
  have m4 : D2 ≤ q1 := hD2 ▸ hq1 ▸ Chart.dig_start (B := 4294967296) hYd (by omega) g5
  have m5 : D2 < 4294967296 := hD2 ▸ Chart.quo_lt k6 g5
  have m6 : R2 < Y := hR2 ▸ Nat.mod_lt _ (by omega)
  have two := Chart.two_digits (B := 4294967296) (U := U) (y := Y) (by omega) u v v0 hU
  rw [← hD1, ← hR1, ← hD2, ← hR2] at two
  have w1 := wrap_rest Y u v hY1 (by omega)
  rw [← hD1, ← hR1] at w1
  have w2 := wrap_rest Y R1 v0 hY1 (by omega)
  rw [← hD2, ← hR2] at w2
  obtain ⟨p0, hp0⟩ : ∃ a, a = q0 * y1 := ⟨_, rfl⟩
  obtain ⟨p1, hp1⟩ : ∃ a, a = q1 * y1 := ⟨_, rfl⟩
  obtain ⟨A, hA⟩ : ∃ a, a = u * 4294967296 % 18446744073709551616 := ⟨_, rfl⟩
  obtain ⟨N1, hN1⟩ : ∃ a, a = (A + v) % 18446744073709551616 := ⟨_, rfl⟩
  obtain ⟨M1, hM1⟩ : ∃ a, a = D1 * Y % 18446744073709551616 := ⟨_, rfl⟩
  obtain ⟨A2, hA2⟩ : ∃ a, a = R1 * 4294967296 % 18446744073709551616 := ⟨_, rfl⟩
  obtain ⟨N2, hN2⟩ : ∃ a, a = (A2 + v0) % 18446744073709551616 := ⟨_, rfl⟩
  obtain ⟨M2, hM2⟩ : ∃ a, a = D2 * Y % 18446744073709551616 := ⟨_, rfl⟩
  rw [← hA, ← hN1, ← hM1] at w1
  rw [← hA2, ← hN2, ← hM2] at w2
  refine div64_big h l y s Y y1 y0 H L u v v0 q0 p0 r0 D1 R1 q1 p1 r1 D2 R2 A N1 M1 (D1 * 4294967296) (D1 * 4294967296 + D2) A2 N2 M2 h0 hh hl hy hs hs63
    e1 (hy0 ▸ and_low Y hY1) (by omega) (by omega) e4 e5 e6 (by omega) (hv0 ▸ and_low L hL') ?e9 ?e10 ?e11 hYd g3 g2 huY g4 k2 (hD1 ▸ k4) k1 (by omega) hD1
    ?e12 ?e13 ?e14 w1 ?e16 ?e17 ?e18 k6 g5 m2 (hD2 ▸ m4) m1 (by omega) hD2 ?e19 ?e20 ?e21 ?e22 ?e23 w2 ?hQ ?hR w
  case e9 => rw [← Int.natCast_ediv, ← hq0]; exact wrap_small _ (by omega)
  case e10 => rw [← Int.natCast_mul, ← hp0]; exact wrap_small _ (by omega)
  case e11 => rw [IntKind.wrap_u64]; omega
  case e12 => rw [show (u : Int) * 4294967296 = ((u * 4294967296 : Nat) : Int) by omega, wrap_big, ← hA]
  case e13 => rw [← Int.natCast_add, wrap_big, ← hN1]
  case e14 => rw [← Int.natCast_mul, wrap_big, ← hM1]
  case e16 => rw [← Int.natCast_ediv, ← hq1]; exact wrap_small _ (by omega)
  case e17 => rw [← Int.natCast_mul, ← hp1]; exact wrap_small _ (by omega)
  case e18 => rw [IntKind.wrap_u64]; omega
  case e19 => rw [IntKind.wrap_u64]; omega
  case e20 => rw [IntKind.wrap_u64]; omega
  case e21 => rw [show (R1 : Int) * 4294967296 = ((R1 * 4294967296 : Nat) : Int) by omega, wrap_big, ← hA2]
  case e22 => rw [← Int.natCast_add, wrap_big, ← hN2]
  case e23 => rw [← Int.natCast_mul, wrap_big, ← hM2]
  case hQ => rw [← s1, two.1]
  case hR => rw [← s2, two.2, hK]

/-- **math/bits.Div64**: the quotient and the rest of h * 2 ^ 64 + l by y, where h is less than y. -/
theorem div64_any (h l y : Nat) (hh : h < y) (hl : l < 18446744073709551616) (hy : y < 18446744073709551616) (w : World) :
    Calls Tryz.prog 62 #[.int .u64 h, .int .u64 l, .int .u64 y] w fun e w' => e = .returned (.tuple #[.int .u64 (((h * 18446744073709551616 + l) / y : Nat) : Int), .int .u64 (((h * 18446744073709551616 + l) % y : Nat) : Int)]) ∧ Below w.heap.size w w' := by
  by_cases h0 : h = 0
  · subst h0
    simpa using div64_small l y (by omega) hl hy w
  · have hbl := bitLen_le y (by omega)
    have hb1 := bitLen_lt y (by omega)
    have hb2 := bitLen_ge y (by omega) (by omega)
    obtain ⟨s, hs⟩ : ∃ s, s + Lib.bitLen y = 64 := ⟨64 - Lib.bitLen y, by omega⟩
    have hpow : 2 ^ Lib.bitLen y * 2 ^ s = 18446744073709551616 := by rw [← Nat.pow_add, Nat.add_comm, hs]
    have hs63 : s ≤ 63 := by
      apply Classical.byContradiction
      intro hc
      have : Lib.bitLen y = 0 := by omega
      rw [this] at hb1
      omega
    have hk : 0 < 2 ^ s := Nat.two_pow_pos s
    have hY1 : y * 2 ^ s < 18446744073709551616 := by rw [← hpow]; exact Nat.mul_lt_mul_of_pos_right hb1 hk
    have hY2 : 18446744073709551616 ≤ 2 * (y * 2 ^ s) := by
      rw [← hpow, ← Nat.mul_assoc]; exact Nat.mul_le_mul_right _ hb2
    have hH : h * 2 ^ s < 18446744073709551616 := Nat.lt_trans (Nat.mul_lt_mul_of_pos_right hh hk) hY1
    have h64 : 2 ^ (64 - s) * 2 ^ s = 18446744073709551616 := by rw [← Nat.pow_add, show 64 - s + s = 64 by omega]
    have hld : l * 2 ^ s / 18446744073709551616 = l / 2 ^ (64 - s) := by rw [← h64, Nat.mul_div_mul_right _ _ hk]
    have hlt : l / 2 ^ (64 - s) < 2 ^ s := by
      rw [Nat.div_lt_iff_lt_mul (Nat.two_pow_pos _), Nat.mul_comm, h64]; exact hl
    have hor : bits .or .u64 ((h * 2 ^ s : Nat) : Int) ((l : Int) / 2 ^ (64 - s)) = ((h * 2 ^ s + l / 2 ^ (64 - s) : Nat) : Int) := by
      have e : (l : Int) / 2 ^ (64 - s) = ((l / 2 ^ (64 - s) : Nat) : Int) := by simp
      have hle := Nat.div_le_self l (2 ^ (64 - s))
      rw [e, u64_or_nat _ _ hH (by omega)]
      have := Nat.shiftLeft_add_eq_or_of_lt hlt h
      rw [Nat.shiftLeft_eq] at this
      rw [this]
    have hsplit : (h * 18446744073709551616 + l) * 2 ^ s = (h * 2 ^ s + l / 2 ^ (64 - s)) * 18446744073709551616 + l * 2 ^ s % 18446744073709551616 := by
      have := Nat.div_add_mod (l * 2 ^ s) 18446744073709551616
      rw [hld] at this
      rw [Nat.add_mul, Nat.add_mul, Nat.mul_right_comm h]
      omega
    have hX : (h * 18446744073709551616 + l) * 2 ^ s < y * 2 ^ s * 18446744073709551616 := by
      rw [Nat.mul_right_comm y]
      refine Nat.mul_lt_mul_of_pos_right ?_ hk
      omega
    have hwH := wrap_small _ hH
    have hwY := wrap_small _ hY1
    have hwL := wrap_big (l * 2 ^ s)
    have hsb := Chart.shift_both (X := h * 18446744073709551616 + l) (y := y) hk
    have hL' : l * 2 ^ s % 18446744073709551616 < 18446744073709551616 := Nat.mod_lt _ (by decide)
    have p1 : ((y * 2 ^ s : Nat) : Int) = (y : Int) * 2 ^ s := by simp
    have p2 : ((h * 2 ^ s : Nat) : Int) = (h : Int) * 2 ^ s := by simp
    have p3 : ((l * 2 ^ s : Nat) : Int) = (l : Int) * 2 ^ s := by simp
    rw [p1] at hwY
    rw [p2] at hwH
    rw [p3] at hwL
    exact div64_last h l y s (2 ^ s) (y * 2 ^ s) (h * 2 ^ s) (l * 2 ^ s % 18446744073709551616) (h * 2 ^ s + l / 2 ^ (64 - s)) ((h * 18446744073709551616 + l) * 2 ^ s) (by omega) hh hl hy hs hs63 rfl hwY hwH hor hwL hL' hY1 hY2 hsplit hX hsb.1 hsb.2 w

end Go.Proofs.YtgklcfipgdbbgaaGreatDoor

/- Contracts of package field without powers: outside, product, Check, Add, Sub, Mul. -/
namespace Go.Proofs.YtgklcfipgdbbgaaGreatDoor
open Go.RowKit

/-- The order of the group as the code has it. -/
theorem Q_eq : Chart.Q = 2305843009213688669 := rfl

/-- Is a number no scalar? -/
def outB (x : Int) : Bool := decide (x < 0) || decide (2305843009213688669 ≤ x)
theorem outB_false {x : Int} (h : outB x = false) : 0 ≤ x ∧ x < 2305843009213688669 := by
  unfold outB at h
  simp only [Bool.or_eq_false_iff, decide_eq_false_iff_not] at h
  omega
theorem outB_true {x : Int} (h : outB x = true) : x < 0 ∨ 2305843009213688669 ≤ x := by
  unfold outB at h
  simpa using h
theorem outB_of {x : Int} (h0 : 0 ≤ x) (h1 : x < 2305843009213688669) : outB x = false := by
  unfold outB
  simp only [Bool.or_eq_false_iff, decide_eq_false_iff_not]
  omega
theorem outB_nat {x : Nat} (h1 : x < Chart.Q) : outB (x : Int) = false := outB_of (by omega) (by rw [Q_eq] at h1; omega)

theorem out1_any (x : Int) (w : World) : Calls Tryz.prog 59 #[.int .i64 x] w fun e w' => e = .returned (.bool (outB x)) ∧ w = w' := by
  by_cases h1 : x < 0
  · have hfin : outB x = true := by unfold outB; simp [h1]
    have H := Lib.hid hfin; clear hfin
    go_enter Tryz.func59, Tryz.ntmps59
    go_wp2
    go_ret
    exact ⟨by rw [H.out]; rfl, rfl⟩
  · by_cases h2 : 2305843009213688669 ≤ x
    · have hfin : outB x = true := by unfold outB; simp [h2]
      have H := Lib.hid hfin; clear hfin
      go_enter Tryz.func59, Tryz.ntmps59
      go_wp2
      go_ret
      exact ⟨by rw [H.out]; rfl, rfl⟩
    · have hfin : outB x = false := by unfold outB; simp [h1, h2]
      have H := Lib.hid hfin; clear hfin
      go_enter Tryz.func59, Tryz.ntmps59
      go_wp2
      go_ret
      exact ⟨by rw [H.out]; rfl, rfl⟩

/-- Whole numbers that lie in memory from a place on. -/
def IntsAt (w : World) (g off : Nat) (l : List Int) : Prop := ∀ i (h : i < l.length), w.cell? ⟨g, off + i, none⟩ = some (.int .i64 l[i])

def IdxPost (l : List Int) (w : World) (e : Ending) (w' : World) : Prop := ∃ n : Int, (0 ≤ n ↔ l.any outB = true) ∧ e = .returned (.int .i64 n) ∧ w = w'

theorem any_take_succ (l : List Int) (k : Nat) (h : k < l.length) : (l.take (k + 1)).any outB = ((l.take k).any outB || outB l[k]) := by
  rw [List.take_succ_eq_append_getElem h, List.any_append]
  simp

set_option maxHeartbeats 1000000 in
theorem index_any (l : List Int) (g off cap : Nat) (hm : l.length ≤ 2147483647) (w : World) (hc : IntsAt w g off l) :
    Calls Tryz.prog 82 #[.slice (some ⟨g, off, none⟩) l.length cap, .func (.func 59) #[] #[]] w (IdxPost l w) := by
  go_enter Tryz.func82, Tryz.ntmps82
  go_wp2_with fail
  go_loop [8] (fun i => ∃ k : Nat, k ≤ l.length ∧ i = .int .i64 k ∧ Hid ((l.take k).any outB = false)) (fun i => l.length - (intOf i).toNat)
  case atStart => exact ⟨0, Nat.zero_le _, rfl, Lib.hid (by simp)⟩
  case round =>
    obtain ⟨k, hk, rfl, hF⟩ := hrel
    by_cases hlt : k < l.length
    · have hcell := hc k hlt
      have hs := Lib.hid (any_take_succ l k hlt)
      have hi : (0 : Int) ≤ k ∧ (k : Int) < (l.length : Int) := by omega
      generalize hx : l[k] = x at *
      have HX := Lib.hid hx; clear hx
      by_cases ho : outB x = true
      · have ho' := Lib.hid ho
        go_wp2_with (go_at_call 59; refine (out1_any _ _).mono ?_; rintro e w' ⟨rfl, rfl⟩)
        go_ret
        refine ⟨k, ?_, rfl, rfl⟩
        constructor
        · intro _
          rw [List.any_eq_true]
          exact ⟨l[k], List.getElem_mem hlt, by rw [HX.out]; exact ho'.out⟩
        · intro _; omega
      · have ho2 : outB x = false := by simpa using ho
        clear ho
        go_wp2_with (go_at_call 59; refine (out1_any _ _).mono ?_; rintro e w' ⟨rfl, rfl⟩)
        go_round
        case rel => exact ⟨k + 1, by omega, by go_num, Lib.hid (by rw [hs.out, hF.out, ho2]; rfl)⟩
        case measure => simp [intOf]; omega
    · go_wp2_with fail
      go_ret
      refine ⟨-1, ?_, rfl, rfl⟩
      have e : l.take k = l := List.take_of_length_le (by omega)
      have := hF.out
      rw [e] at this
      rw [this]
      simp
theorem contains_any (l : List Int) (g off cap : Nat) (hm : l.length ≤ 2147483647) (w : World) (hc : IntsAt w g off l) :
    Calls Tryz.prog 58 #[.slice (some ⟨g, off, none⟩) l.length cap, .func (.func 59) #[] #[]] w fun e w' => e = .returned (.bool (l.any outB)) ∧ w = w' := by
  go_enter Tryz.func58, Tryz.ntmps58
  go_wp2_with fail
  refine (index_any l g off cap hm w hc).mono ?_
  rintro e w' ⟨n, hn, rfl, rfl⟩
  have H := Lib.hid hn; clear hn
  by_cases h : 0 ≤ n
  · have hfin := Lib.hid (H.out.1 h)
    go_wp2
    go_ret
    exact ⟨by rw [hfin.out]; rfl, rfl⟩
  · have hfin : l.any outB = false := by
      rw [Bool.eq_false_iff]; intro hc; exact h (H.out.2 hc)
    have hfin' := Lib.hid hfin; clear hfin
    go_wp2
    go_ret
    exact ⟨by rw [hfin'.out]; simp; omega, rfl⟩

theorem outside_any (l : List Int) (g off cap : Nat) (hm : l.length ≤ 2147483647) (w : World) (hc : IntsAt w g off l) :
    Calls Tryz.prog 36 #[.slice (some ⟨g, off, none⟩) l.length cap] w fun e w' => e = .returned (.bool (l.any outB)) ∧ w = w' := by
  go_enter Tryz.func36, Tryz.ntmps36
  go_wp2_with fail
  refine (contains_any l g off cap hm w hc).mono ?_
  rintro e w' ⟨rfl, rfl⟩
  go_wp2
  go_ret
  exact ⟨rfl, rfl⟩

/-- Of two numbers that are laid anew. -/
theorem outside_two (a b : Int) (w : World) :
    Calls Tryz.prog 36 #[.slice (some ⟨w.heap.size, 0, none⟩) 2 2] (w.alloc (.cells #[.int .i64 a, .int .i64 b] 3)) fun e w' => e = .returned (.bool (outB a || outB b)) ∧ w.alloc (.cells #[.int .i64 a, .int .i64 b] 3) = w' := by
  refine (outside_any [a, b] w.heap.size 0 2 (by simp) _ ?_).mono fun e w' ⟨he, hw⟩ => ⟨by rw [he]; simp, hw⟩
  intro i h
  rcases i with _ | _ | i
  · simp
  · simp
  · simp only [List.length_cons, List.length_nil] at h; omega

theorem outside_one (a : Int) (w : World) :
    Calls Tryz.prog 36 #[.slice (some ⟨w.heap.size, 0, none⟩) 1 1] (w.alloc (.cells #[.int .i64 a] 3)) fun e w' => e = .returned (.bool (outB a)) ∧ w.alloc (.cells #[.int .i64 a] 3) = w' := by
  refine (outside_any [a] w.heap.size 0 1 (by simp) _ ?_).mono fun e w' ⟨he, hw⟩ => ⟨by rw [he]; simp, hw⟩
  intro i h
  rcases i with _ | i
  · simp
  · simp only [List.length_cons, List.length_nil] at h; omega

/-- The product of two scalars. -/
theorem product_any (a b : Nat) (ha : a < Chart.Q) (hb : b < Chart.Q) (w : World) :
    Calls Tryz.prog 38 #[.int .i64 a, .int .i64 b] w fun e w' => e = .returned (.int .i64 ((a * b % Chart.Q : Nat) : Int)) ∧ Below w.heap.size w w' := by
  have hQ := Q_eq
  have h1 : a < 18446744073709551616 := by omega
  have h2 : b < 18446744073709551616 := by omega
  have h3 : IntKind.u64.wrap (a : Int) = (a : Int) := wrap_small a h1
  have h4 : IntKind.u64.wrap (b : Int) = (b : Int) := wrap_small b h2
  have h5 : a * b / 18446744073709551616 < 2305843009213688669 := by
    have h6 : a * b < 2305843009213688669 * 18446744073709551616 := Nat.mul_lt_mul_of_lt_of_le (by omega) (by omega) (by decide)
    exact (Nat.div_lt_iff_lt_mul (by decide)).2 h6
  have h7 := Nat.div_add_mod' (a * b) 18446744073709551616
  have h8 : a * b % Chart.Q < Chart.Q := Nat.mod_lt _ (by rw [Q_eq]; decide)
  have h9 : a * b % 18446744073709551616 < 18446744073709551616 := Nat.mod_lt _ (by decide)
  obtain ⟨hi, hhi⟩ : ∃ n, n = a * b / 18446744073709551616 := ⟨_, rfl⟩
  obtain ⟨lo, hlo⟩ : ∃ n, n = a * b % 18446744073709551616 := ⟨_, rfl⟩
  obtain ⟨r, hr⟩ : ∃ n, n = a * b % Chart.Q := ⟨_, rfl⟩
  have c1 := mul64_any a b h1 h2 w
  have c2 := div64_any hi lo 2305843009213688669 (by omega) (by omega) (by decide) w
  rw [← hhi, ← hlo] at c1 h7
  rw [h7, ← Q_eq, ← hr] at c2
  rw [← hr] at h8 ⊢
  have h10 : IntKind.i64.wrap (r : Int) = (r : Int) := by
    rw [IntKind.wrap_i64]; omega
  have C1 := Lib.hid c1; have C2 := Lib.hid c2
  clear c1 c2 h7 hhi hlo hr hQ h5 h8 h9 h1 h2 ha hb
  go_enter Tryz.func38, Tryz.ntmps38
  go_wp2_with fail
  refine C1.out.mono ?_
  rintro e w' ⟨rfl, rfl⟩
  go_wp2_with fail
  refine C2.out.mono ?_
  rintro e w' ⟨rfl, hb⟩
  go_wp2_with fail
  go_ret
  exact ⟨rfl, hb⟩

/-- A number that fits is not wrapped. -/
theorem wrap_i64_small (r : Int) (h0 : -9223372036854775808 ≤ r) (h1 : r ≤ 9223372036854775807) : IntKind.i64.wrap r = r := by
  rw [IntKind.wrap_i64]; omega

/-- Two results: a number and an error code. -/
abbrev two (a e : Int) : Ending := .returned (.tuple #[.int .i64 a, .int .i64 e])

theorem fmul_bad (a b : Int) (h : (outB a || outB b) = true) (w : World) :
    Calls Tryz.prog 45 #[.int .i64 a, .int .i64 b] w fun e w' => e = two 0 1 ∧ Below w.heap.size w w' := by
  go_enter Tryz.func45, Tryz.ntmps45
  go_wp2_with fail
  refine (outside_two a b w).mono ?_
  rintro e w' ⟨rfl, rfl⟩
  rw [h]
  clear h
  go_wp2_with fail
  go_ret2
  exact ⟨rfl, (Below.refl _ _).alloc (Nat.le_refl _) _⟩

theorem fmul_any (a b : Nat) (ha : a < Chart.Q) (hb : b < Chart.Q) (w : World) :
    Calls Tryz.prog 45 #[.int .i64 a, .int .i64 b] w fun e w' => e = two ((a * b % Chart.Q : Nat) : Int) 0 ∧ Below w.heap.size w w' := by
  have h : (outB (a : Int) || outB (b : Int)) = false := by rw [outB_nat ha, outB_nat hb]; rfl
  obtain ⟨r, hr⟩ : ∃ n, n = a * b % Chart.Q := ⟨_, rfl⟩
  have c := product_any a b ha hb (w.alloc (.cells #[.int .i64 a, .int .i64 b] 3))
  rw [← hr] at c ⊢
  have C := Lib.hid c
  clear c hr ha hb
  go_enter Tryz.func45, Tryz.ntmps45
  go_wp2_with fail
  refine (outside_two (a : Int) (b : Int) w).mono ?_
  rintro e w' ⟨rfl, rfl⟩
  rw [h]
  clear h
  go_wp2_with fail
  refine C.out.mono ?_
  rintro e w' ⟨rfl, hb⟩
  go_wp2_with fail
  go_ret2
  exact ⟨rfl, ((Below.refl _ _).alloc (Nat.le_refl _) _).trans (hb.mono (by simp))⟩

end Go.Proofs.YtgklcfipgdbbgaaGreatDoor

/- field.Check, Add, Sub. -/
namespace Go.Proofs.YtgklcfipgdbbgaaGreatDoor
open Go.RowKit

theorem fcheck_any (a : Int) (w : World) : Calls Tryz.prog 30 #[.int .i64 a] w fun e w' => e = .returned (.int .i64 (if outB a then 1 else 0)) ∧ Below w.heap.size w w' := by
  cases h : outB a
  all_goals
    go_enter Tryz.func30, Tryz.ntmps30
    go_wp2_with fail
    refine (outside_one a w).mono ?_
    rintro e w' ⟨rfl, rfl⟩
    rw [h]
    go_wp2_with fail
    go_ret
    exact ⟨rfl, (Below.refl _ _).alloc (Nat.le_refl _) _⟩

theorem fadd_any (a b : Nat) (ha : a < Chart.Q) (hb : b < Chart.Q) (w : World) :
    Calls Tryz.prog 29 #[.int .i64 a, .int .i64 b] w fun e w' => e = two (((a + b) % Chart.Q : Nat) : Int) 0 ∧ Below w.heap.size w w' := by
  have h : (outB (a : Int) || outB (b : Int)) = false := by rw [outB_nat ha, outB_nat hb]; rfl
  have hQ := Q_eq
  obtain ⟨r, hr⟩ : ∃ n, n = (a + b) % Chart.Q := ⟨_, rfl⟩
  have e1 : ((a : Int) + (b : Int)) % 2305843009213688669 = (r : Int) := by rw [hr, hQ]; omega
  obtain ⟨x, hx⟩ : ∃ x : Int, x = (a : Int) + (b : Int) := ⟨_, rfl⟩
  have e2 : IntKind.i64.wrap ((a : Int) + (b : Int)) = x := by rw [wrap_i64_small _ (by omega) (by omega), hx]
  have e3 : x.tmod 2305843009213688669 = (r : Int) := by rw [Int.tmod_eq_emod_of_nonneg (by omega), hx, e1]
  have e4 : IntKind.i64.wrap (r : Int) = (r : Int) := wrap_i64_small _ (by omega) (by rw [hr]; have := Nat.mod_lt (a + b) (show Chart.Q > 0 by rw [hQ]; decide); omega)
  rw [← hr]
  clear hr ha hb e1 hx hQ
  go_enter Tryz.func29, Tryz.ntmps29
  go_wp2_with fail
  refine (outside_two (a : Int) (b : Int) w).mono ?_
  rintro e w' ⟨rfl, rfl⟩
  rw [h]
  clear h
  go_wp2_with fail
  go_ret2
  exact ⟨rfl, (Below.refl _ _).alloc (Nat.le_refl _) _⟩

theorem fadd_bad (a b : Int) (h : (outB a || outB b) = true) (w : World) :
    Calls Tryz.prog 29 #[.int .i64 a, .int .i64 b] w fun e w' => e = two 0 1 ∧ Below w.heap.size w w' := by
  go_enter Tryz.func29, Tryz.ntmps29
  go_wp2_with fail
  refine (outside_two a b w).mono ?_
  rintro e w' ⟨rfl, rfl⟩
  rw [h]
  clear h
  go_wp2_with fail
  go_ret2
  exact ⟨rfl, (Below.refl _ _).alloc (Nat.le_refl _) _⟩

theorem fsub_any (a b : Nat) (ha : a < Chart.Q) (hb : b < Chart.Q) (w : World) :
    Calls Tryz.prog 67 #[.int .i64 a, .int .i64 b] w fun e w' => e = two (((a + (Chart.Q - b)) % Chart.Q : Nat) : Int) 0 ∧ Below w.heap.size w w' := by
  have h : (outB (a : Int) || outB (b : Int)) = false := by rw [outB_nat ha, outB_nat hb]; rfl
  have hQ := Q_eq
  by_cases hlt : (a : Int) < (b : Int)
  · obtain ⟨r, hr⟩ : ∃ n, n = (a + (Chart.Q - b)) % Chart.Q := ⟨_, rfl⟩
    rw [← hr]
    have hr' : (r : Int) = (a : Int) + 2305843009213688669 - (b : Int) := by rw [hr, hQ, Nat.mod_eq_of_lt (by omega)]; omega
    obtain ⟨x, hx⟩ : ∃ x : Int, x = (a : Int) + 2305843009213688669 := ⟨_, rfl⟩
    have e2 : IntKind.i64.wrap ((a : Int) + 2305843009213688669) = x := by rw [wrap_i64_small _ (by omega) (by omega), hx]
    have e3 : IntKind.i64.wrap (x - (b : Int)) = (r : Int) := by rw [wrap_i64_small _ (by omega) (by omega)]; omega
    have hn : ¬ (b : Int) ≤ (a : Int) := by omega
    clear hr ha hb hx hQ hr'
    go_enter Tryz.func67, Tryz.ntmps67
    go_wp2_with fail
    refine (outside_two (a : Int) (b : Int) w).mono ?_
    rintro e w' ⟨rfl, rfl⟩
    rw [h]
    clear h
    go_wp2_with fail
    go_ret2
    exact ⟨rfl, (Below.refl _ _).alloc (Nat.le_refl _) _⟩
  · obtain ⟨r, hr⟩ : ∃ n, n = (a + (Chart.Q - b)) % Chart.Q := ⟨_, rfl⟩
    rw [← hr]
    have hr' : (r : Int) = (a : Int) - (b : Int) := by
      have : a + (Chart.Q - b) = (a - b) + Chart.Q := by omega
      rw [hr, this, Nat.add_mod_right, Nat.mod_eq_of_lt (by omega)]; omega
    have e3 : IntKind.i64.wrap ((a : Int) - (b : Int)) = (r : Int) := by rw [wrap_i64_small _ (by omega) (by omega)]; omega
    clear hr ha hb hQ hr'
    go_enter Tryz.func67, Tryz.ntmps67
    go_wp2_with fail
    refine (outside_two (a : Int) (b : Int) w).mono ?_
    rintro e w' ⟨rfl, rfl⟩
    rw [h]
    clear h
    go_wp2_with fail
    go_ret2
    exact ⟨rfl, (Below.refl _ _).alloc (Nat.le_refl _) _⟩

theorem fsub_bad (a b : Int) (h : (outB a || outB b) = true) (w : World) :
    Calls Tryz.prog 67 #[.int .i64 a, .int .i64 b] w fun e w' => e = two 0 1 ∧ Below w.heap.size w w' := by
  go_enter Tryz.func67, Tryz.ntmps67
  go_wp2_with fail
  refine (outside_two a b w).mono ?_
  rintro e w' ⟨rfl, rfl⟩
  rw [h]
  clear h
  go_wp2_with fail
  go_ret2
  exact ⟨rfl, (Below.refl _ _).alloc (Nat.le_refl _) _⟩

end Go.Proofs.YtgklcfipgdbbgaaGreatDoor
