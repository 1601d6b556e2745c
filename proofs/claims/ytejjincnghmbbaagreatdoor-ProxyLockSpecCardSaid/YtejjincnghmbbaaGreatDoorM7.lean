/- Long division of 128 by 64 bits, in plain Lean: what the loops of Div64 do. No program is in sight. -/
import Derived.Deep.QuietTactic
import Derived.BigQuiet
import Derived.Deep.CutBlock
import Derived.Deep.DeepCutAuto
import Derived.Lib.Hide
import Derived.Defers
import Derived.Recover
import Derived.WalkSmall
import Derived.Test.YtejjincnghmbbaaGreatDoorM3
import Derived.Test.YtejjincnghmbbaaGreatDoorM6
namespace Chart

/-- Is q at most the quotient? -/
theorem dig_le {B y y1 y0 u v q r : Nat} (hB : 0 < B) (hy : y = y1 * B + y0) (hy1 : 0 < y1) (hr : q * y1 + r = u) : q ≤ (u * B + v) / y ↔ q * y0 ≤ B * r + v := by
  have h0 : 0 < y := by
    have := Nat.mul_pos hy1 hB
    omega
  rw [Nat.le_div_iff_mul_le h0, hy, ← hr, Nat.mul_add, Nat.add_mul, ← Nat.mul_assoc, Nat.mul_comm r B]
  omega

theorem quo_lt {B y u v : Nat} (hu : u < y) (hv : v < B) : (u * B + v) / y < B := by
  rw [Nat.div_lt_iff_lt_mul (by omega)]
  have := Nat.mul_le_mul_left B (show u + 1 ≤ y from hu)
  rw [Nat.mul_add, Nat.mul_one, Nat.mul_comm B u] at this
  omega

theorem dig_start {B y y1 y0 u v : Nat} (hy : y = y1 * B + y0) (hy1 : 0 < y1) (hv : v < B) : (u * B + v) / y ≤ u / y1 := by
  rw [Nat.le_div_iff_mul_le hy1]
  have h := Nat.div_mul_le_self (u * B + v) y
  have e : (u * B + v) / y * y = (u * B + v) / y * y1 * B + (u * B + v) / y * y0 := by
    conv => lhs; rw [hy, Nat.mul_add, ← Nat.mul_assoc]
    rw [← hy]
  rw [e] at h
  generalize (u * B + v) / y = q at *
  have h2 : q * y1 * B < (u + 1) * B := by rw [Nat.add_mul, Nat.one_mul]; omega
  have := Nat.lt_of_mul_lt_mul_right h2
  omega

theorem start_le {B y y1 y0 u : Nat} (hy : y = y1 * B + y0) (hy1 : B ≤ 2 * y1) (hB : 0 < B) (h0 : y0 < B) (hu : u < y) : u / y1 ≤ B + 2 := by
  apply Nat.le_of_lt_succ
  rw [Nat.div_lt_iff_lt_mul (by omega), Nat.succ_eq_add_one, Nat.add_mul, Nat.add_mul, Nat.mul_comm B y1]
  omega

/-- The test of the loop says no: the quotient is found. -/
theorem dig_found {B y y1 y0 u v q r : Nat} (hB : 0 < B) (hy : y = y1 * B + y0) (hy1 : 0 < y1) (hr : q * y1 + r = u) (hq : (u * B + v) / y ≤ q) (h : ¬ q * y0 > B * r + v) :
    q = (u * B + v) / y := Nat.le_antisymm ((dig_le hB hy hy1 hr).2 (by omega)) hq

/-- The test of the loop says yes: one less is still enough. -/
theorem dig_less {B y y1 y0 u v q r : Nat} (hB : 0 < B) (hy : y = y1 * B + y0) (hy1 : 0 < y1) (hu : u < y) (hv : v < B) (hr : q * y1 + r = u) (hq : (u * B + v) / y ≤ q)
    (h : q ≥ B ∨ q * y0 > B * r + v) : 0 < q ∧ (u * B + v) / y ≤ q - 1 ∧ (q - 1) * y1 + (r + y1) = u := by
  have h1 : (u * B + v) / y ≠ q := by
    rcases h with h | h
    · have := quo_lt hu hv
      generalize (u * B + v) / y = k at *
      omega
    · intro e
      have := (dig_le (v := v) hB hy hy1 hr).1 (by rw [e]; exact Nat.le_refl _)
      omega
  generalize (u * B + v) / y = m at *
  have h0 : 0 < q := by omega
  refine ⟨h0, by omega, ?_⟩
  obtain ⟨k, rfl⟩ : ∃ k, q = k + 1 := ⟨q - 1, by omega⟩
  rw [Nat.add_mul, Nat.one_mul] at hr
  simp only [Nat.add_sub_cancel]
  omega

/-- The loop is left in its middle: the quotient is found. -/
theorem dig_break {B y y1 y0 u v q r : Nat} (hB : 0 < B) (hy : y = y1 * B + y0) (hy1 : 0 < y1) (h0 : y0 < B) (hr : q * y1 + r = u) (hq : (u * B + v) / y ≤ q) (hq2 : q ≤ B + 1)
    (h : B ≤ r) : q = (u * B + v) / y := by
  refine dig_found hB hy hy1 hr hq ?_
  have h1 : q * y0 ≤ (B + 1) * y0 := Nat.mul_le_mul_right _ hq2
  have h2 : B * (y0 + 1) ≤ B * B := Nat.mul_le_mul_left _ h0
  have h3 : B * B ≤ B * r := Nat.mul_le_mul_left _ h
  rw [Nat.add_mul] at h1
  rw [Nat.mul_add] at h2
  omega

/-- What is left, modulo M. -/
theorem rest_mod {B M y u v q : Nat} (hy : y ≤ M) (h0 : 0 < y) (hq : q = (u * B + v) / y) :
    ((((u * B : Nat) : Int) + (v : Int)) - ((q * y : Nat) : Int)) % (M : Int) = (((u * B + v) % y : Nat) : Int) := by
  have h1 := Nat.div_add_mod (u * B + v) y
  have h2 := Nat.mod_lt (u * B + v) h0
  rw [← hq, Nat.mul_comm y q] at h1
  generalize q * y = m at *
  generalize (u * B + v) % y = k at *
  have : (((u * B : Nat) : Int) + (v : Int)) - (m : Int) = (k : Int) := by omega
  rw [this]
  exact Int.emod_eq_of_lt (by omega) (by omega)

/-- The two digits together. -/
theorem two_digits {B U y : Nat} (h0 : 0 < y) (u v w : Nat) (hU : U = (u * B + v) * B + w) :
    U / y = (u * B + v) / y * B + ((u * B + v) % y * B + w) / y ∧ U % y = ((u * B + v) % y * B + w) % y := by
  have h1 := Nat.div_add_mod (u * B + v) y
  generalize (u * B + v) / y = q at *
  generalize (u * B + v) % y = k at *
  have e : U = (k * B + w) + y * (q * B) := by
    rw [hU, ← h1, Nat.add_mul, ← Nat.mul_assoc]
    omega
  rw [e]
  constructor
  · rw [Nat.add_mul_div_left _ _ h0, Nat.add_comm]
  · rw [Nat.add_mul_mod_self_left]

/-- Shifting both by the same number changes only the rest. -/
theorem shift_both {X y k : Nat} (h0 : 0 < k) : (X * k) / (y * k) = X / y ∧ (X * k) % (y * k) / k = X % y := by
  refine ⟨Nat.mul_div_mul_right _ _ h0, ?_⟩
  rw [Nat.mul_mod_mul_right, Nat.mul_div_cancel _ h0]

theorem two_halves {U u L v v0 B M : Nat} (hM : M = B * B) (hs : U = u * M + L) (hv : v = L / B) (hv0 : v0 = L % B) : U = (u * B + v) * B + v0 := by
  have := Nat.div_add_mod' L B
  rw [Nat.add_mul, Nat.mul_assoc, ← hM, hs, hv, hv0]
  omega

end Chart

/- The contract of math/bits.Div64: quotient and rest of 128 by 64 bits. -/
namespace Go.Proofs.YtejjincnghmbbaaGreatDoor
open Go.RowKit

theorem leading_s (x s : Nat) (h1 : x ≤ 18446744073709551615) (hs : s + Lib.bitLen x = 64) (w : World) :
    Calls Tryz.prog 86 #[.int .u64 x] w fun e w' => e = .returned (.int .i64 (s : Int)) ∧ w = w' :=
  (leading_any x h1 w).mono fun _ _ ⟨he, hw⟩ => ⟨by rw [he]; exact ret_int (by omega), hw.symm⟩

theorem Below.of_drewN (w : World) (n : Nat) (B : Nat) : Below B w (w.drewN n) := by
  refine ⟨rfl, rfl, rfl, Nat.le_refl _, fun _ _ => rfl⟩

theorem div64_small (l y : Nat) (hy0 : 0 < y) (hl : l < 18446744073709551616) (hy : y < 18446744073709551616) (w : World) :
    Calls Tryz.prog 66 #[.int .u64 0, .int .u64 l, .int .u64 y] w fun e w' => e = .returned (.tuple #[.int .u64 ((l / y : Nat) : Int), .int .u64 ((l % y : Nat) : Int)]) ∧ Below w.heap.size w w' := by
  have h0 : ((y : Int) == 0) = false := beq_eq_false_iff_ne.2 (by omega)
  have h1 : ¬ (y : Int) ≤ 0 := by omega
  have h2 : ¬ (y : Int) = 0 := by omega
  have h3 : IntKind.u64.wrap ((l : Int) / (y : Int)) = (l : Int) / (y : Int) := by
    have e : (l : Int) / (y : Int) = ((l / y : Nat) : Int) := by simp
    have hd := Nat.div_le_self l y
    rw [e, IntKind.wrap_u64]
    generalize l / y = k at *
    omega
  go_enter Tryz.func66, Tryz.ntmps66
  go_wp2
  go_quiet (fail)
  go_wp2
  go_ret2
  exact ⟨by simp, Below.of_drewN _ _ _⟩

set_option maxRecDepth 100000 in
set_option maxHeartbeats 4000000 in
theorem div64_big (h l y s Y y1 y0 H L u v v0 q0 p0 r0 D1 R1 q1 p1 r1 D2 R2 A N1 M1 E q' A2 N2 M2 : Nat) (h0 : 0 < h) (hh : h < y) (_hl : l < 18446744073709551616) (hy : y < 18446744073709551616) (hs : s + Lib.bitLen y = 64) (hs63 : s ≤ 63)
    (e1 : IntKind.u64.wrap ((y : Int) * 2 ^ s) = (Y : Int)) (e2 : bits .and .u64 (Y : Int) 4294967295 = (y0 : Int)) (e3 : (Y : Int) / 4294967296 = (y1 : Int)) (g1 : 0 < (y1 : Int))
    (e4 : IntKind.u64.wrap ((h : Int) * 2 ^ s) = (H : Int)) (e5 : bits .or .u64 (H : Int) ((l : Int) / 2 ^ (64 - s)) = (u : Int)) (e6 : IntKind.u64.wrap ((l : Int) * 2 ^ s) = (L : Int))
    (e7 : (L : Int) / 4294967296 = (v : Int)) (e8 : bits .and .u64 (L : Int) 4294967295 = (v0 : Int))
    (e9 : IntKind.u64.wrap ((u : Int) / (y1 : Int)) = (q0 : Int)) (e10 : IntKind.u64.wrap ((q0 : Int) * (y1 : Int)) = (p0 : Int)) (e11 : IntKind.u64.wrap ((u : Int) - (p0 : Int)) = (r0 : Int))
    (hY : Y = y1 * 4294967296 + y0) (hy0 : y0 < 4294967296) (hy1 : y1 < 4294967296) (hu : u < Y) (hv : v < 4294967296)
    (hq0 : q0 * y1 + r0 = u) (hq0' : (u * 4294967296 + v) / Y ≤ q0) (hq0'' : q0 ≤ 4294967298) (hr0 : r0 < 4294967296) (hD1 : D1 = (u * 4294967296 + v) / Y)
    (e12 : IntKind.u64.wrap ((u : Int) * 4294967296) = (A : Int)) (e13 : IntKind.u64.wrap ((A : Int) + (v : Int)) = (N1 : Int)) (e14 : IntKind.u64.wrap ((D1 : Int) * (Y : Int)) = (M1 : Int)) (e15 : IntKind.u64.wrap ((N1 : Int) - (M1 : Int)) = (R1 : Int))
    (e16 : IntKind.u64.wrap ((R1 : Int) / (y1 : Int)) = (q1 : Int)) (e17 : IntKind.u64.wrap ((q1 : Int) * (y1 : Int)) = (p1 : Int)) (e18 : IntKind.u64.wrap ((R1 : Int) - (p1 : Int)) = (r1 : Int))
    (hR1 : R1 < Y) (hv0 : v0 < 4294967296)
    (hq1 : q1 * y1 + r1 = R1) (hq1' : (R1 * 4294967296 + v0) / Y ≤ q1) (hq1'' : q1 ≤ 4294967298) (hr1 : r1 < 4294967296) (hD2 : D2 = (R1 * 4294967296 + v0) / Y)
    (e19 : IntKind.u64.wrap ((D1 : Int) * 4294967296) = (E : Int)) (e20 : IntKind.u64.wrap ((E : Int) + (D2 : Int)) = (q' : Int)) (e21 : IntKind.u64.wrap ((R1 : Int) * 4294967296) = (A2 : Int))
    (e22 : IntKind.u64.wrap ((A2 : Int) + (v0 : Int)) = (N2 : Int)) (e23 : IntKind.u64.wrap ((D2 : Int) * (Y : Int)) = (M2 : Int)) (e24 : IntKind.u64.wrap ((N2 : Int) - (M2 : Int)) = (R2 : Int))
    (hQ : q' = (h * 18446744073709551616 + l) / y) (hR : R2 / 2 ^ s = (h * 18446744073709551616 + l) % y)
    (w : World) :
    Calls Tryz.prog 66 #[.int .u64 h, .int .u64 l, .int .u64 y] w fun e w' => e = .returned (.tuple #[.int .u64 (((h * 18446744073709551616 + l) / y : Nat) : Int), .int .u64 (((h * 18446744073709551616 + l) % y : Nat) : Int)]) ∧ Below w.heap.size w w' := by
  have b0 : ((y : Int) == 0) = false := beq_eq_false_iff_ne.2 (by omega)
  have b1 : ¬ (y : Int) ≤ (h : Int) := by omega
  have b2 : ((h : Int) == 0) = false := beq_eq_false_iff_ne.2 (by omega)
  have b4 : ¬ (y1 : Int) = 0 := by omega
  have HY := Lib.hid hY; clear hY
  have HD1 := Lib.hid hD1; clear hD1
  have Hs := Lib.hid hs; clear hs
  have Hq0 := Lib.hid hq0; clear hq0
  have HD2 := Lib.hid hD2; clear hD2
  have Hq1 := Lib.hid hq1; clear hq1
  have HQ' := Lib.hid hQ; clear hQ
  have HR' := Lib.hid hR; clear hR
  go_enter Tryz.func66, Tryz.ntmps66
  go_upto_block 0 with (go_at_call 86; refine (leading_s y s (by omega) Hs.out _).mono ?_; rintro e w' ⟨rfl, rfl⟩)
  go_cut [15] (fun q wx => q = .int .u64 (D1 : Int) ∧ w = wx)
  case first =>
    go_wp2_with fail
    go_loop [15, 16] (fun qv rv => ∃ q r : Int, qv = .int .u64 q ∧ rv = .int .u64 r ∧ 0 ≤ q ∧ 0 ≤ r ∧ Hid (q.toNat * y1 + r.toNat = u) ∧ Hid ((u * 4294967296 + v) / Y ≤ q.toNat) ∧ q ≤ 4294967298 ∧ r < 4294967296) (fun qv _ => (intOf qv).toNat)
    case atStart => exact ⟨q0, r0, rfl, rfl, by omega, by omega, Hq0.out, Lib.hid hq0', by omega, by omega⟩
    case round =>
      obtain ⟨q, r, rfl, rfl, hq1, hr1, Hq, HQ, hq2, hr⟩ := hrel
      have hyi : (y1 : Int) < 4294967296 := by omega
      clear hq0'
      by_cases hq : 4294967296 ≤ q
      · obtain ⟨f1, f2, f3⟩ := Chart.dig_less (B := 4294967296) (by omega) HY.out (by omega) hu hv Hq.out HQ.out (.inl (by omega))
        have F2 := Lib.hid f2; have F3 := Lib.hid f3
        clear f1 f2 f3 HQ Hq
        by_cases hb : 4294967296 ≤ r + (y1 : Int)
        · go_wp2_with fail
          go_meet
          have h6 := Chart.dig_break (B := 4294967296) (by omega) HY.out (by omega) hy0 F3.out F2.out (by omega) (by omega)
          rw [← HD1.out] at h6
          exact ⟨by congr 1; omega, rfl⟩
        · go_wp2_with fail
          go_round
          case rel => exact ⟨q - 1, r + y1, rfl, rfl, by omega, by omega, Lib.hid (by have := F3.out; rw [show (q - 1).toNat = q.toNat - 1 by omega, show (r + (y1 : Int)).toNat = r.toNat + y1 by omega]; exact this), Lib.hid (by have := F2.out; rw [show (q - 1).toNat = q.toNat - 1 by omega]; exact this), by omega, by omega⟩
          case measure => simp [intOf]; omega
      · have hm : 0 ≤ q * (y0 : Int) ∧ q * (y0 : Int) < 18446744073709551616 := by
          refine ⟨Int.mul_nonneg hq1 (by omega), ?_⟩
          have h7 := Int.mul_le_mul (show q ≤ 4294967295 by omega) (show (y0 : Int) ≤ 4294967295 by omega) (by omega) (by omega)
          omega
        have hm' : IntKind.u64.wrap (q * (y0 : Int)) = q * (y0 : Int) := by rw [IntKind.wrap_u64]; omega
        have hcast : ((q.toNat * y0 : Nat) : Int) = q * (y0 : Int) := by rw [Int.natCast_mul, Int.toNat_of_nonneg hq1]
        by_cases hc : 4294967296 * r + (v : Int) < q * (y0 : Int)
        · obtain ⟨f1, f2, f3⟩ := Chart.dig_less (B := 4294967296) (by omega) HY.out (by omega) hu hv Hq.out HQ.out (.inr (by omega))
          have F2 := Lib.hid f2; have F3 := Lib.hid f3; have F1 := Lib.hid f1
          clear f1 f2 f3 HQ Hq hcast
          have F4 : 1 ≤ q := by have := F1.out; omega
          by_cases hb : 4294967296 ≤ r + (y1 : Int)
          · go_wp2_with fail
            go_meet
            have h6 := Chart.dig_break (B := 4294967296) (by omega) HY.out (by omega) hy0 F3.out F2.out (by omega) (by omega)
            rw [← HD1.out] at h6
            exact ⟨by congr 1; omega, rfl⟩
          · go_wp2_with fail
            go_round
            case rel => exact ⟨q - 1, r + y1, rfl, rfl, by omega, by omega, Lib.hid (by have := F3.out; rw [show (q - 1).toNat = q.toNat - 1 by omega, show (r + (y1 : Int)).toNat = r.toNat + y1 by omega]; exact this), Lib.hid (by have := F2.out; rw [show (q - 1).toNat = q.toNat - 1 by omega]; exact this), by omega, by omega⟩
            case measure => simp [intOf]; omega
        · have HC := Lib.hid hcast; clear hcast
          go_wp2_with fail
          go_meet
          have h6 := Chart.dig_found (B := 4294967296) (v := v) (by omega) HY.out (by omega) Hq.out HQ.out (by have := HC.out; omega)
          rw [← HD1.out] at h6
          exact ⟨by congr 1; omega, rfl⟩
  case rest =>
    obtain ⟨rfl, rfl⟩ := hcut
    clear e1 e2 e3 e4 e5 e6 e7 e8 e9 e10 e11 hq0'
    go_upto_block 2 with fail
    go_cut [18] (fun q wx => q = .int .u64 (D2 : Int) ∧ w = wx)
    case first =>
      go_wp2_with fail
      go_loop [18, 16] (fun qv rv => ∃ q r : Int, qv = .int .u64 q ∧ rv = .int .u64 r ∧ 0 ≤ q ∧ 0 ≤ r ∧ Hid (q.toNat * y1 + r.toNat = R1) ∧ Hid ((R1 * 4294967296 + v0) / Y ≤ q.toNat) ∧ q ≤ 4294967298 ∧ r < 4294967296) (fun qv _ => (intOf qv).toNat)
      case atStart => exact ⟨q1, r1, rfl, rfl, by omega, by omega, Hq1.out, Lib.hid hq1', by omega, by omega⟩
      case round =>
        obtain ⟨q, r, rfl, rfl, hqa, hra, Hq, HQ, hq2, hr⟩ := hrel
        have hyi : (y1 : Int) < 4294967296 := by omega
        clear hq1'
        by_cases hq : 4294967296 ≤ q
        · obtain ⟨f1, f2, f3⟩ := Chart.dig_less (B := 4294967296) (by omega) HY.out (by omega) hR1 hv0 Hq.out HQ.out (.inl (by omega))
          have F2 := Lib.hid f2; have F3 := Lib.hid f3
          clear f1 f2 f3 HQ Hq
          by_cases hb : 4294967296 ≤ r + (y1 : Int)
          · go_wp2_with fail
            go_meet
            have h6 := Chart.dig_break (B := 4294967296) (by omega) HY.out (by omega) hy0 F3.out F2.out (by omega) (by omega)
            rw [← HD2.out] at h6
            exact ⟨by congr 1; omega, rfl⟩
          · go_wp2_with fail
            go_round
            case rel => exact ⟨q - 1, r + y1, rfl, rfl, by omega, by omega, Lib.hid (by have := F3.out; rw [show (q - 1).toNat = q.toNat - 1 by omega, show (r + (y1 : Int)).toNat = r.toNat + y1 by omega]; exact this), Lib.hid (by have := F2.out; rw [show (q - 1).toNat = q.toNat - 1 by omega]; exact this), by omega, by omega⟩
            case measure => simp [intOf]; omega
        · have hm : 0 ≤ q * (y0 : Int) ∧ q * (y0 : Int) < 18446744073709551616 := by
            refine ⟨Int.mul_nonneg hqa (by omega), ?_⟩
            have h7 := Int.mul_le_mul (show q ≤ 4294967295 by omega) (show (y0 : Int) ≤ 4294967295 by omega) (by omega) (by omega)
            omega
          have hm' : IntKind.u64.wrap (q * (y0 : Int)) = q * (y0 : Int) := by rw [IntKind.wrap_u64]; omega
          have hcast : ((q.toNat * y0 : Nat) : Int) = q * (y0 : Int) := by rw [Int.natCast_mul, Int.toNat_of_nonneg hqa]
          by_cases hc : 4294967296 * r + (v0 : Int) < q * (y0 : Int)
          · obtain ⟨f1, f2, f3⟩ := Chart.dig_less (B := 4294967296) (by omega) HY.out (by omega) hR1 hv0 Hq.out HQ.out (.inr (by omega))
            have F2 := Lib.hid f2; have F3 := Lib.hid f3; have F1 := Lib.hid f1
            clear f1 f2 f3 HQ Hq hcast
            have F4 : 1 ≤ q := by have := F1.out; omega
            by_cases hb : 4294967296 ≤ r + (y1 : Int)
            · go_wp2_with fail
              go_meet
              have h6 := Chart.dig_break (B := 4294967296) (by omega) HY.out (by omega) hy0 F3.out F2.out (by omega) (by omega)
              rw [← HD2.out] at h6
              exact ⟨by congr 1; omega, rfl⟩
            · go_wp2_with fail
              go_round
              case rel => exact ⟨q - 1, r + y1, rfl, rfl, by omega, by omega, Lib.hid (by have := F3.out; rw [show (q - 1).toNat = q.toNat - 1 by omega, show (r + (y1 : Int)).toNat = r.toNat + y1 by omega]; exact this), Lib.hid (by have := F2.out; rw [show (q - 1).toNat = q.toNat - 1 by omega]; exact this), by omega, by omega⟩
              case measure => simp [intOf]; omega
          · have HC := Lib.hid hcast; clear hcast
            go_wp2_with fail
            go_meet
            have h6 := Chart.dig_found (B := 4294967296) (v := v0) (by omega) HY.out (by omega) Hq.out HQ.out (by have := HC.out; omega)
            rw [← HD2.out] at h6
            exact ⟨by congr 1; omega, rfl⟩
    case rest =>
      obtain ⟨rfl, rfl⟩ := hcut
      clear e12 e13 e14 e15 e16 e17 e18 hq1'
      go_wp2_with fail
      go_ret2
      refine ⟨?_, Below.refl _ _⟩
      rw [← HQ'.out, ← HR'.out]
      simp

end Go.Proofs.YtejjincnghmbbaaGreatDoor

/- The contract of math/bits.Div64, for all numbers. -/
namespace Go.Proofs.YtejjincnghmbbaaGreatDoor
open Go.RowKit

theorem wrap_small (a : Nat) (ha : a < 18446744073709551616) : IntKind.u64.wrap (a : Int) = (a : Int) := by rw [IntKind.wrap_u64]; omega
theorem wrap_big (a : Nat) : IntKind.u64.wrap (a : Int) = ((a % 18446744073709551616 : Nat) : Int) := by rw [IntKind.wrap_u64]; omega

theorem wrap_rest (y u v : Nat) (hy : y < 18446744073709551616) (h0 : 0 < y) :
    IntKind.u64.wrap (((u * 4294967296 % 18446744073709551616 + v) % 18446744073709551616 : Nat) - (((u * 4294967296 + v) / y * y % 18446744073709551616 : Nat) : Int)) = (((u * 4294967296 + v) % y : Nat) : Int) := by
  have h := Chart.rest_mod (B := 4294967296) (M := 18446744073709551616) (u := u) (v := v) (Nat.le_of_lt hy) h0 rfl
  rw [IntKind.wrap_u64, ← h]
  generalize (u * 4294967296 + v) / y * y = m
  generalize u * 4294967296 = a
  omega

theorem and_low (a : Nat) (ha : a < 18446744073709551616) : bits .and .u64 (a : Int) 4294967295 = ((a % 4294967296 : Nat) : Int) := Bits64.maskN a ha

theorem div64_last (h l y s K Y H L u U : Nat) (h0 : 0 < h) (hh : h < y) (hl : l < 18446744073709551616) (hy : y < 18446744073709551616) (hs : s + Lib.bitLen y = 64) (hs63 : s ≤ 63) (hK : K = 2 ^ s)
    (e1 : IntKind.u64.wrap ((y : Int) * 2 ^ s) = (Y : Int)) (e4 : IntKind.u64.wrap ((h : Int) * 2 ^ s) = (H : Int)) (e5 : bits .or .u64 (H : Int) ((l : Int) / 2 ^ (64 - s)) = (u : Int)) (e6 : IntKind.u64.wrap ((l : Int) * 2 ^ s) = (L : Int))
    (hL' : L < 18446744073709551616) (hY1 : Y < 18446744073709551616) (hY2 : 18446744073709551616 ≤ 2 * Y) (hsplit : U = u * 18446744073709551616 + L) (hX : U < Y * 18446744073709551616)
    (s1 : U / Y = (h * 18446744073709551616 + l) / y) (s2 : U % Y / K = (h * 18446744073709551616 + l) % y) (w : World) :
    Calls Tryz.prog 66 #[.int .u64 h, .int .u64 l, .int .u64 y] w fun e w' => e = .returned (.tuple #[.int .u64 (((h * 18446744073709551616 + l) / y : Nat) : Int), .int .u64 (((h * 18446744073709551616 + l) % y : Nat) : Int)]) ∧ Below w.heap.size w w' := by
  obtain ⟨y1, hy1⟩ : ∃ a, a = Y / 4294967296 := ⟨_, rfl⟩
  obtain ⟨y0, hy0⟩ : ∃ a, a = Y % 4294967296 := ⟨_, rfl⟩
  obtain ⟨v, hv⟩ : ∃ a, a = L / 4294967296 := ⟨_, rfl⟩
  obtain ⟨v0, hv0⟩ : ∃ a, a = L % 4294967296 := ⟨_, rfl⟩
  have huY : u < Y := by omega
  have hU : U = (u * 4294967296 + v) * 4294967296 + v0 := Chart.two_halves (M := 18446744073709551616) (by decide) hsplit hv hv0
  have hYd : Y = y1 * 4294967296 + y0 := by omega
  have g1 : 2147483648 ≤ y1 := by omega
  have g2 : y1 < 4294967296 := by omega
  have g3 : y0 < 4294967296 := by omega
  have g4 : v < 4294967296 := by omega
  have g5 : v0 < 4294967296 := by omega
  obtain ⟨q0, hq0⟩ : ∃ a, a = u / y1 := ⟨_, rfl⟩
  obtain ⟨r0, hr0⟩ : ∃ a, a = u % y1 := ⟨_, rfl⟩
  have k1 : q0 ≤ 4294967298 := hq0 ▸ Chart.start_le (B := 4294967296) hYd (by omega) (by omega) g3 huY
  have k2 : q0 * y1 + r0 = u := by rw [hq0, hr0]; exact Nat.div_add_mod' u y1
  have k3 : r0 < y1 := hr0 ▸ Nat.mod_lt u (by omega)
  obtain ⟨D1, hD1⟩ : ∃ a, a = (u * 4294967296 + v) / Y := ⟨_, rfl⟩
  obtain ⟨R1, hR1⟩ : ∃ a, a = (u * 4294967296 + v) % Y := ⟨_, rfl⟩
  have k4 : D1 ≤ q0 := hD1 ▸ hq0 ▸ Chart.dig_start (B := 4294967296) hYd (by omega) g4
  have k5 : D1 < 4294967296 := hD1 ▸ Chart.quo_lt huY g4
  have k6 : R1 < Y := hR1 ▸ Nat.mod_lt _ (by omega)
  obtain ⟨q1, hq1⟩ : ∃ a, a = R1 / y1 := ⟨_, rfl⟩
  obtain ⟨r1, hr1⟩ : ∃ a, a = R1 % y1 := ⟨_, rfl⟩
  have m1 : q1 ≤ 4294967298 := hq1 ▸ Chart.start_le (B := 4294967296) hYd (by omega) (by omega) g3 k6
  have m2 : q1 * y1 + r1 = R1 := by rw [hq1, hr1]; exact Nat.div_add_mod' R1 y1
  have m3 : r1 < y1 := hr1 ▸ Nat.mod_lt R1 (by omega)
  obtain ⟨D2, hD2⟩ : ∃ a, a = (R1 * 4294967296 + v0) / Y := ⟨_, rfl⟩
  obtain ⟨R2, hR2⟩ : ∃ a, a = (R1 * 4294967296 + v0) % Y := ⟨_, rfl⟩
  have m4 : D2 ≤ q1 := hD2 ▸ hq1 ▸ Chart.dig_start (B := 4294967296) hYd (by omega) g5
  have m5 : D2 < 4294967296 := hD2 ▸ Chart.quo_lt k6 g5
  have m6 : R2 < Y := hR2 ▸ Nat.mod_lt _ (by omega)
  have two := Chart.two_digits (B := 4294967296) (U := U) (y := Y) (by omega) u v v0 hU
  rw [← hD1, ← hR1, ← hD2, ← hR2] at two
  have w1 := wrap_rest Y u v hY1 (by omega)
  rw [← hD1, ← hR1] at w1
  have w2 := wrap_rest Y R1 v0 hY1 (by omega)
  rw [← hD2, ← hR2] at w2
  obtain ⟨p0, hp0⟩ : ∃ a, a = q0 * y1 := ⟨_, rfl⟩
  obtain ⟨p1, hp1⟩ : ∃ a, a = q1 * y1 := ⟨_, rfl⟩
  obtain ⟨A, hA⟩ : ∃ a, a = u * 4294967296 % 18446744073709551616 := ⟨_, rfl⟩
  obtain ⟨N1, hN1⟩ : ∃ a, a = (A + v) % 18446744073709551616 := ⟨_, rfl⟩
  obtain ⟨M1, hM1⟩ : ∃ a, a = D1 * Y % 18446744073709551616 := ⟨_, rfl⟩
  obtain ⟨A2, hA2⟩ : ∃ a, a = R1 * 4294967296 % 18446744073709551616 := ⟨_, rfl⟩
  obtain ⟨N2, hN2⟩ : ∃ a, a = (A2 + v0) % 18446744073709551616 := ⟨_, rfl⟩
  obtain ⟨M2, hM2⟩ : ∃ a, a = D2 * Y % 18446744073709551616 := ⟨_, rfl⟩
  rw [← hA, ← hN1, ← hM1] at w1
  rw [← hA2, ← hN2, ← hM2] at w2
  refine div64_big h l y s Y y1 y0 H L u v v0 q0 p0 r0 D1 R1 q1 p1 r1 D2 R2 A N1 M1 (D1 * 4294967296) (D1 * 4294967296 + D2) A2 N2 M2 h0 hh hl hy hs hs63
    e1 (hy0 ▸ and_low Y hY1) (by omega) (by omega) e4 e5 e6 (by omega) (hv0 ▸ and_low L hL') ?e9 ?e10 ?e11 hYd g3 g2 huY g4 k2 (hD1 ▸ k4) k1 (by omega) hD1
    ?e12 ?e13 ?e14 w1 ?e16 ?e17 ?e18 k6 g5 m2 (hD2 ▸ m4) m1 (by omega) hD2 ?e19 ?e20 ?e21 ?e22 ?e23 w2 ?hQ ?hR w
  case e9 => rw [← Int.natCast_ediv, ← hq0]; exact wrap_small _ (by omega)
  case e10 => rw [← Int.natCast_mul, ← hp0]; exact wrap_small _ (by omega)
  case e11 => rw [IntKind.wrap_u64]; omega
  case e12 => rw [show (u : Int) * 4294967296 = ((u * 4294967296 : Nat) : Int) by omega, wrap_big, ← hA]
  case e13 => rw [← Int.natCast_add, wrap_big, ← hN1]
  case e14 => rw [← Int.natCast_mul, wrap_big, ← hM1]
  case e16 => rw [← Int.natCast_ediv, ← hq1]; exact wrap_small _ (by omega)
  case e17 => rw [← Int.natCast_mul, ← hp1]; exact wrap_small _ (by omega)
  case e18 => rw [IntKind.wrap_u64]; omega
  case e19 => rw [IntKind.wrap_u64]; omega
  case e20 => rw [IntKind.wrap_u64]; omega
  case e21 => rw [show (R1 : Int) * 4294967296 = ((R1 * 4294967296 : Nat) : Int) by omega, wrap_big, ← hA2]
  case e22 => rw [← Int.natCast_add, wrap_big, ← hN2]
  case e23 => rw [← Int.natCast_mul, wrap_big, ← hM2]
  case hQ => rw [← s1, two.1]
  case hR => rw [← s2, two.2, hK]

/-- **math/bits.Div64**: the quotient and the rest of h * 2 ^ 64 + l by y, where h is less than y. -/
theorem div64_any (h l y : Nat) (hh : h < y) (hl : l < 18446744073709551616) (hy : y < 18446744073709551616) (w : World) :
    Calls Tryz.prog 66 #[.int .u64 h, .int .u64 l, .int .u64 y] w fun e w' => e = .returned (.tuple #[.int .u64 (((h * 18446744073709551616 + l) / y : Nat) : Int), .int .u64 (((h * 18446744073709551616 + l) % y : Nat) : Int)]) ∧ Below w.heap.size w w' := by
  by_cases h0 : h = 0
  · subst h0
    simpa using div64_small l y (by omega) hl hy w
  · have hbl := bitLen_le y (by omega)
    have hb1 := bitLen_lt y (by omega)
    have hb2 := bitLen_ge y (by omega) (by omega)
    obtain ⟨s, hs⟩ : ∃ s, s + Lib.bitLen y = 64 := ⟨64 - Lib.bitLen y, by omega⟩
    have hpow : 2 ^ Lib.bitLen y * 2 ^ s = 18446744073709551616 := by rw [← Nat.pow_add, Nat.add_comm, hs]
    have hs63 : s ≤ 63 := by
      apply Classical.byContradiction
      intro hc
      have : Lib.bitLen y = 0 := by omega
      rw [this] at hb1
      omega
    have hk : 0 < 2 ^ s := Nat.two_pow_pos s
    have hY1 : y * 2 ^ s < 18446744073709551616 := by rw [← hpow]; exact Nat.mul_lt_mul_of_pos_right hb1 hk
    have hY2 : 18446744073709551616 ≤ 2 * (y * 2 ^ s) := by
      rw [← hpow, ← Nat.mul_assoc]; exact Nat.mul_le_mul_right _ hb2
    have hH : h * 2 ^ s < 18446744073709551616 := Nat.lt_trans (Nat.mul_lt_mul_of_pos_right hh hk) hY1
    have h64 : 2 ^ (64 - s) * 2 ^ s = 18446744073709551616 := by rw [← Nat.pow_add, show 64 - s + s = 64 by omega]
    have hld : l * 2 ^ s / 18446744073709551616 = l / 2 ^ (64 - s) := by rw [← h64, Nat.mul_div_mul_right _ _ hk]
    have hlt : l / 2 ^ (64 - s) < 2 ^ s := by
      rw [Nat.div_lt_iff_lt_mul (Nat.two_pow_pos _), Nat.mul_comm, h64]; exact hl
    have hor : bits .or .u64 ((h * 2 ^ s : Nat) : Int) ((l : Int) / 2 ^ (64 - s)) = ((h * 2 ^ s + l / 2 ^ (64 - s) : Nat) : Int) := by
      have e : (l : Int) / 2 ^ (64 - s) = ((l / 2 ^ (64 - s) : Nat) : Int) := by simp
      have hle := Nat.div_le_self l (2 ^ (64 - s))
      rw [e, u64_or_nat _ _ hH (by omega)]
      have := Nat.shiftLeft_add_eq_or_of_lt hlt h
      rw [Nat.shiftLeft_eq] at this
      rw [this]
    have hsplit : (h * 18446744073709551616 + l) * 2 ^ s = (h * 2 ^ s + l / 2 ^ (64 - s)) * 18446744073709551616 + l * 2 ^ s % 18446744073709551616 := by
      have := Nat.div_add_mod (l * 2 ^ s) 18446744073709551616
      rw [hld] at this
      rw [Nat.add_mul, Nat.add_mul, Nat.mul_right_comm h]
      omega
    have hX : (h * 18446744073709551616 + l) * 2 ^ s < y * 2 ^ s * 18446744073709551616 := by
      rw [Nat.mul_right_comm y]
      refine Nat.mul_lt_mul_of_pos_right ?_ hk
      omega
    have hwH := wrap_small _ hH
    have hwY := wrap_small _ hY1
    have hwL := wrap_big (l * 2 ^ s)
    have hsb := Chart.shift_both (X := h * 18446744073709551616 + l) (y := y) hk
    have hL' : l * 2 ^ s % 18446744073709551616 < 18446744073709551616 := Nat.mod_lt _ (by decide)
    have p1 : ((y * 2 ^ s : Nat) : Int) = (y : Int) * 2 ^ s := by simp
    have p2 : ((h * 2 ^ s : Nat) : Int) = (h : Int) * 2 ^ s := by simp
    have p3 : ((l * 2 ^ s : Nat) : Int) = (l : Int) * 2 ^ s := by simp
    rw [p1] at hwY
    rw [p2] at hwH
    rw [p3] at hwL
    exact div64_last h l y s (2 ^ s) (y * 2 ^ s) (h * 2 ^ s) (l * 2 ^ s % 18446744073709551616) (h * 2 ^ s + l / 2 ^ (64 - s)) ((h * 18446744073709551616 + l) * 2 ^ s) (by omega) hh hl hy hs hs63 rfl hwY hwH hor hwL hL' hY1 hY2 hsplit hX hsb.1 hsb.2 w

end Go.Proofs.YtejjincnghmbbaaGreatDoor

/- group.rest: the remainder of the number of a digest; group.Scalar. -/
namespace Go.Proofs.YtejjincnghmbbaaGreatDoor
open Go.RowKit

/-- The remainder of the number that bytes are. -/
def restOf (m : Nat) (l : List UInt8) : Nat := l.foldl (fun n b => (n * 256 + b.toNat) % m) 0

theorem restOf_lt (m : Nat) (h : 0 < m) (l : List UInt8) : restOf m l < m := by
  unfold restOf
  rcases List.eq_nil_or_concat l with rfl | ⟨a, b, rfl⟩
  · exact h
  · rw [List.concat_eq_append, List.foldl_append]
    exact Nat.mod_lt _ h
theorem restOf_snoc (m : Nat) (l : List UInt8) (b : UInt8) : restOf m (l ++ [b]) = (restOf m l * 256 + b.toNat) % m := by
  unfold restOf
  rw [List.foldl_append]
  rfl

theorem or_low (x y : Nat) (hx : x % 256 = 0) (hy : y < 256) (hx2 : x < 18446744073709551616) : bits .or .u64 (x : Int) (y : Int) = ((x + y : Nat) : Int) := by
  show IntKind.u64.wrap ((BitVec.ofInt 64 (x : Int) ||| BitVec.ofInt 64 (y : Int)).toNat : Int) = _
  rw [BitVec.toNat_or, BitVec.ofInt_natCast, BitVec.ofInt_natCast, BitVec.toNat_ofNat, BitVec.toNat_ofNat]
  have e1 : x % 2 ^ 64 = 2 ^ 8 * (x / 256) := by omega
  have e2 : y % 2 ^ 64 = y := by omega
  rw [e1, e2, ← Nat.two_pow_add_eq_or_of_lt (by omega : y < 2 ^ 8)]
  rw [show 2 ^ 8 * (x / 256) + y = x + y by omega, IntKind.wrap_u64]
  omega

theorem wrap64_256 (n : Nat) : IntKind.u64.wrap ((n : Int) * 256) = ((n * 256 % 18446744073709551616 : Nat) : Int) := by
  rw [IntKind.wrap_u64]
  omega
theorem wrap64_bn (c : UInt8) : IntKind.u64.wrap (bn c) = ((c.toNat : Nat) : Int) := by
  have := c.toNat_lt
  rw [IntKind.wrap_u64]
  unfold bn
  omega
theorem whole_num (n c : Nat) : n / 72057594037927936 * 18446744073709551616 + (n * 256 % 18446744073709551616 + c) = n * 256 + c := by omega

/-- What the closure is: one byte more. -/
theorem fold_any (n m : Nat) (c : UInt8) (gn gm : Nat) (Tn Tm : TypeId) (w : World) (hn : RowIs w gn Tn [.int .u64 n]) (hm : RowIs w gm Tm [.int .u64 m]) (hnm : n < m) (hm0 : 4294967296 ≤ m) (hm1 : m < 2 ^ 62) :
    Calls Tryz.prog 85 #[.int .u8 (bn c), .pointer (some ⟨gn, 0, none⟩), .pointer (some ⟨gm, 0, none⟩)] w (Put gn Tn [.int .u64 (((n * 256 + c.toNat) % m : Nat) : Int)] w) := by
  have hc0 := (hn.cell 0).trans (show _ = some (Value.int .u64 (n : Int)) from rfl)
  have hc1 := (hm.cell 0).trans (show _ = some (Value.int .u64 (m : Int)) from rfl)
  have hf := hn.frozen 0
  have hh : n / 72057594037927936 < m := by omega
  have hl : n * 256 % 18446744073709551616 + c.toNat < 18446744073709551616 := by have := c.toNat_lt; omega
  have C := Lib.hid (div64_any (n / 72057594037927936) (n * 256 % 18446744073709551616 + c.toNat) m hh hl (by omega) w)
  rw [whole_num] at C
  have Hn := Lib.hid hn
  clear hh hl hn
  have eH : ((n : Int) / 72057594037927936) = ((n / 72057594037927936 : Nat) : Int) := rfl
  have eO : bits BinOp.or IntKind.u64 (IntKind.u64.wrap ((n : Int) * 256)) (IntKind.u64.wrap (bn c)) = ((n * 256 % 18446744073709551616 + c.toNat : Nat) : Int) := by
    rw [wrap64_256, wrap64_bn]
    exact or_low _ _ (by omega) c.toNat_lt (by omega)
  have EH := Lib.hid (And.intro eH eO)
  clear eH eO
  go_enter Tryz.func85, Tryz.ntmps85
  go_wp2_with fail
  rw [EH.out.1, EH.out.2]
  refine C.out.mono ?_
  rintro e w1 ⟨rfl, hB⟩
  obtain ⟨r, hr⟩ : ∃ r, r = (n * 256 + c.toNat) % m := ⟨_, rfl⟩
  rw [← hr]
  have hc2 := ((bcell hB).1 gn 0 Hn.out.lt).trans hc0
  have hf2 := ((bcell hB).2 gn 0 Hn.out.lt).trans hf
  have Hr := Lib.hid hr
  clear hr
  go_wp2_with fail
  go_end0
  exact ⟨rfl, (Apart.of_below hB gn).trans (Apart.setCell _ _ _ _), by rw [← Hr.out]; exact (Hn.out.below hB Hn.out.lt).set 0 _⟩
theorem results_cell_one {P : Program} {fn : Func} {p : Tmp} {ty : TypeId} (h : fn.results = #[.cell p ty]) (tmps : Array Value) (w : World) (g o : Nat) (v : Value)
    (hp : tmps.getD p undef = .pointer (some ⟨g, o, none⟩)) (ha : ∀ w, (isAgg ty).run P w = .ok false w) (hc : w.cell? ⟨g, o, none⟩ = some v) : (results fn tmps).run P w = .ok v w := by
  have hp' : tmps[p]?.getD undef = .pointer (some ⟨g, o, none⟩) := by simpa using hp
  simp [results, h, hp', asAddr, loadVar, ha, hc]

theorem agg_get (l : List UInt8) (i : Nat) (c : UInt8) (h : l[i]? = some c) : (l.map u8v).toArray[i]? = some (.int .u8 (bn c)) := by
  rw [List.getElem?_toArray, List.getElem?_map, h]; rfl

set_option maxRecDepth 100000 in
theorem rest_any (l : List UInt8) (hl : l.length = 32) (m : Nat) (hm0 : 4294967296 ≤ m) (hm1 : m < 2 ^ 62) (w : World) :
    Calls Tryz.prog 64 #[.agg (l.map u8v).toArray, .int .u64 m] w fun e w' => e = .returned (.int .u64 (restOf m l)) ∧ Below w.heap.size w w' := by
  obtain ⟨d, hd⟩ : ∃ d, d = l.map u8v := ⟨_, rfl⟩
  rw [← hd]
  have hdl : d.length = 32 := by rw [hd, List.length_map, hl]
  obtain ⟨w1, hw1⟩ : ∃ x, x = w.alloc (.cells d.toArray 59) := ⟨_, rfl⟩
  obtain ⟨w2, hw2⟩ : ∃ x, x = w1.alloc (.cells #[.int .u64 m] 50) := ⟨_, rfl⟩
  obtain ⟨w3, hw3⟩ : ∃ x, x = w2.alloc (.cells #[.int .u64 0] 50) := ⟨_, rfl⟩
  have s1 : w1.heap.size = w.heap.size + 1 := by rw [hw1]; simp
  have s2 : w2.heap.size = w.heap.size + 2 := by rw [hw2]; simp [s1]
  have s3 : w3.heap.size = w.heap.size + 3 := by rw [hw3]; simp [s2]
  have r1 : RowIs w3 w.heap.size 59 d := by
    rw [hw3, hw2]
    refine RowIs.alloc (RowIs.alloc ?_ _) _
    rw [hw1]; exact RowIs.new w d _
  have r2 : RowIs w3 (w.heap.size + 1) 50 [.int .u64 m] := by
    rw [hw3]
    refine RowIs.alloc ?_ _
    rw [hw2, ← s1]; exact RowIs.new w1 [.int .u64 m] _
  have r3 : RowIs w3 (w.heap.size + 1 + 1) 50 [.int .u64 0] := by
    rw [hw3, show w.heap.size + 1 + 1 = w2.heap.size by omega]; exact RowIs.new w2 [.int .u64 0] _
  have hB : Below w.heap.size w w3 := by
    rw [hw3, hw2, hw1]
    exact (((Below.refl _ w).alloc (Nat.le_refl _) _).alloc (by simp) _).alloc (by simp; omega) _
  have E1 := r1.loads (P := Tryz.prog) 32 hdl
  have HH := Lib.hid (And.intro r1 (And.intro r2 (And.intro r3 hB)))
  have Hd := Lib.hid hd
  clear hd r1 r2 r3 hB
  go_enter Tryz.func64, Tryz.ntmps64
  go_upto_region 2 with fail
  rw [← hw1, ← hw2, ← hw3]
  clear hw1 hw2 hw3 s1 s2
  go_wp2_with fail
  go_loopw [10] (fun i wr => ∃ t : Nat, t ≤ 32 ∧ i = .int .i64 t ∧ Hid (RowIs wr (w.heap.size + 1 + 1) 50 [.int .u64 (restOf m (l.take t))]) ∧ Hid (RowIs wr (w.heap.size + 1) 50 [.int .u64 m]) ∧ Hid (Below w.heap.size w wr)) (fun i _ => 32 - (intOf i).toNat)
  case atStart => exact ⟨0, by omega, rfl, Lib.hid HH.out.2.2.1, Lib.hid HH.out.2.1, Lib.hid HH.out.2.2.2⟩
  case round =>
    obtain ⟨t, ht, rfl, hR, hM, hB⟩ := hrel
    by_cases hlt : t < 32
    · obtain ⟨c, hc⟩ : ∃ c, l[t]? = some c := ⟨_, List.getElem?_eq_getElem (by omega)⟩
      have EI := run_index_agg (P := Tryz.prog) (t := 59) (e := 5) (n := 32) (cs := d.toArray) (by kernel_rfl) (isAgg_int .u8 (by kernel_rfl)) (by kernel_rfl)
        .i64 t (.int .u8 (bn c)) hlt (by rw [Hd.out]; exact agg_get l t c hc) wr
      have C := Lib.hid (fold_any (restOf m (l.take t)) m c (w.heap.size + 1 + 1) (w.heap.size + 1) 50 50 wr hR.out hM.out (restOf_lt m (by omega) _) hm0 hm1)
      have Hc := Lib.hid hc; clear hc
      go_wp2_with fail
      refine C.out.mono ?_
      rintro e w4 ⟨rfl, hA1, hR1⟩
      rw [← restOf_snoc] at hR1
      have ht1 : l.take t ++ [c] = l.take (t + 1) := by rw [List.take_add_one, Hc.out]; rfl
      rw [ht1] at hR1
      have HF := Lib.hid (And.intro hR1 (And.intro (hM.out.apart hA1 (by omega)) (hA1.below hB.out (by omega) hB.out.size)))
      clear hA1 hR1 ht1
      go_wp2_with fail
      exact ⟨⟨t + 1, by omega, by go_num, Lib.hid HF.out.1, Lib.hid HF.out.2.1, Lib.hid HF.out.2.2⟩, by simp [intOf]; omega⟩
    · obtain rfl : t = 32 := by omega
      rw [List.take_of_length_le (by omega)] at hR
      obtain ⟨r, hr⟩ : ∃ r, r = restOf m l := ⟨_, rfl⟩
      rw [← hr] at hR
      have Hr := Lib.hid hr
      have hc0 := (hR.out.cell 0).trans (show _ = some (Value.int .u64 (r : Int)) from rfl)
      have hf := hR.out.frozen 0
      clear hr
      go_wp2_with fail
      have hfin := hR.out.set 0 (.int .u64 r)
      refine bodyPost_ret (results_cell_one rfl _ _ _ 0 (.int .u64 r) rfl (isAgg_int .u64 (by kernel_rfl)) (hfin.cell 0)) rfl ?_
      refine ⟨by rw [Hr.out], below_setCell hB.out (by omega) _ _⟩
end Go.Proofs.YtejjincnghmbbaaGreatDoor

/- group.Scalar: a scalar that bytes determine. -/
namespace Go.Proofs.YtejjincnghmbbaaGreatDoor
open Go.RowKit

def scalarOf (tag l : List UInt8) : Nat := 1 + restOf 2305843009213688668 (Chart.tagged tag l)

theorem scalarOf_ge (tag l : List UInt8) : 1 ≤ scalarOf tag l := by unfold scalarOf; omega
theorem scalarOf_lt (tag l : List UInt8) : scalarOf tag l < 2305843009213688669 := by
  have := restOf_lt 2305843009213688668 (by decide) (Chart.tagged tag l)
  unfold scalarOf; omega

theorem scalar_any (tag : ByteArray) (l : List UInt8) (v : Value) (w : World) (h : Bs w.heap.size w v l) (hlen : l.length < 2 ^ 47) (ht : tag.data.toList.length < 2 ^ 47) (hl : Laid w) :
    Calls Tryz.prog 45 #[.string tag, v] w fun e w' => e = .returned (.int .i64 (scalarOf tag.data.toList l)) ∧ Below w.heap.size w w' := by
  have C1 := Lib.hid (tagged_any tag l v w h hlen ht hl)
  have hge := scalarOf_ge tag.data.toList l
  have hlt := scalarOf_lt tag.data.toList l
  go_enter Tryz.func45, Tryz.ntmps45
  go_wp2_with fail
  refine C1.out.mono ?_
  rintro e w1 ⟨rfl, hB1⟩
  have C2 := Lib.hid (rest_any (Chart.tagged tag.data.toList l) (Chart.tagged_length _ _) 2305843009213688668 (by omega) (by omega) w1)
  go_wp2_with fail
  refine C2.out.mono ?_
  rintro e w2 ⟨rfl, hB2⟩
  obtain ⟨r, hr⟩ : ∃ r : Int, r = (restOf 2305843009213688668 (Chart.tagged tag.data.toList l) : Int) := ⟨_, rfl⟩
  have hs : (scalarOf tag.data.toList l : Int) = 1 + r := by rw [hr]; unfold scalarOf; omega
  rw [← hr]
  have e1 : IntKind.i64.wrap r = r := wrap_i64_small' (by omega) (by omega)
  have e2 : IntKind.i64.wrap (1 + r) = 1 + r := wrap_i64_small' (by omega) (by omega)
  have HH := Lib.hid (And.intro hs (hB1.trans (hB2.mono hB1.size)))
  clear hr hs hB1 hB2 C1 C2 hge hlt
  go_wp2_with fail
  go_ret
  exact ⟨by rw [HH.out.1]; rfl, HH.out.2⟩
end Go.Proofs.YtejjincnghmbbaaGreatDoor

/- proxy: panics with an error, and the deferred closures that catch them. -/
namespace Go.Proofs.YtejjincnghmbbaaGreatDoor
open Go.RowKit

abbrev failV (e : Int) : Value := .iface 53 (.agg #[.int .i64 e])

theorem demand_bad (e : Int) (w : World) : Calls Tryz.prog 31 #[.bool false, .int .i64 e] w fun r w' => r = .panicked [{ v := failV e, recovered := false }] ∧ w = w' := by
  go_enter Tryz.func31, Tryz.ntmps31
  go_wp2_with fail
  exact ⟨rfl, rfl, rfl⟩

theorem caught_nil (p : Addr) (w : World) : Calls Tryz.prog 16 #[.nilIface, .pointer (some p)] w fun r w' => r = .returned (.tuple #[]) ∧ w = w' := by
  go_enter Tryz.func16, Tryz.ntmps16
  go_wp2_with fail
  go_end0
  exact ⟨rfl, rfl⟩

theorem caught_fail (e x : Int) (b : Nat) (w : World) (hc : w.cell? ⟨b, 0, none⟩ = some (.int .i64 x)) (hf : w.frozen? ⟨b, 0, none⟩ = false) :
    Calls Tryz.prog 16 #[failV e, .pointer (some ⟨b, 0, none⟩)] w fun r w' => r = .returned (.tuple #[]) ∧ (w.setCell ⟨b, 0, none⟩ (.int .i64 e)).alloc (.cells #[.int .i64 e] 53) = w' := by
  have hta : ∀ (v : Value) (w : World), (Instr.typeAssert (.iface 53 v) 20 53 true).run Tryz.prog w = .ok (.tuple #[v, .bool true]) w := fun _ _ => by kernel_rfl
  have hlt : b < w.heap.size := cell_lt hc
  go_enter Tryz.func16, Tryz.ntmps16
  go_upto_block 0 with fail
  go_wp2_with fail
  go_end0
  exact ⟨rfl, rfl⟩

theorem factor1_fail (e x : Int) (b : Nat) (older : List PanicEntry) (w : World) (hc : w.cell? ⟨b, 0, none⟩ = some (.int .i64 x)) (hf : w.frozen? ⟨b, 0, none⟩ = false) :
    CallsD Tryz.prog 40 #[.pointer (some ⟨b, 0, none⟩)] (.panicking ({ v := failV e, recovered := false } :: older)) w fun r u' w' =>
      r = .returned (.tuple #[]) ∧ u' = .panicking ({ v := failV e, recovered := true } :: older) ∧ w' = (w.setCell ⟨b, 0, none⟩ (.int .i64 e)).alloc (.cells #[.int .i64 e] 53) := by
  have C := Lib.hid (caught_fail e x b w hc hf)
  clear hc hf
  refine callsD_of_wpS Tryz.func40 rfl fun c₀ cs hu => ?_
  apply wpS_region
  simp [wpOpsS, go_sem, recoverD, hu, Tryz.ntmps40]
  refine C.out.mono ?_
  rintro r w' ⟨rfl, rfl⟩
  simp [bodyPostS, results, Tryz.results40]

theorem factor1_idle (b : Nat) (w : World) :
    CallsD Tryz.prog 40 #[.pointer (some ⟨b, 0, none⟩)] .returning w fun r u' w' =>
      r = .returned (.tuple #[]) ∧ u' = .returning ∧ w' = w := by
  have C := Lib.hid (caught_nil ⟨b, 0, none⟩ w)
  refine callsD_of_wpS Tryz.func40 rfl fun c₀ cs hu => ?_
  apply wpS_region
  simp [wpOpsS, go_sem, recoverD, hu, Tryz.ntmps40]
  refine C.out.mono ?_
  rintro r w' ⟨rfl, rfl⟩
  cases c₀
  simp_all [bodyPostS, results, Tryz.results40]

theorem turn1_fail (e x : Int) (b : Nat) (older : List PanicEntry) (w : World) (hc : w.cell? ⟨b, 0, none⟩ = some (.int .i64 x)) (hf : w.frozen? ⟨b, 0, none⟩ = false) :
    CallsD Tryz.prog 42 #[.pointer (some ⟨b, 0, none⟩)] (.panicking ({ v := failV e, recovered := false } :: older)) w fun r u' w' =>
      r = .returned (.tuple #[]) ∧ u' = .panicking ({ v := failV e, recovered := true } :: older) ∧ w' = (w.setCell ⟨b, 0, none⟩ (.int .i64 e)).alloc (.cells #[.int .i64 e] 53) := by
  have C := Lib.hid (caught_fail e x b w hc hf)
  clear hc hf
  refine callsD_of_wpS Tryz.func42 rfl fun c₀ cs hu => ?_
  apply wpS_region
  simp [wpOpsS, go_sem, recoverD, hu, Tryz.ntmps42]
  refine C.out.mono ?_
  rintro r w' ⟨rfl, rfl⟩
  simp [bodyPostS, results, Tryz.results42]

theorem turn1_idle (b : Nat) (w : World) :
    CallsD Tryz.prog 42 #[.pointer (some ⟨b, 0, none⟩)] .returning w fun r u' w' =>
      r = .returned (.tuple #[]) ∧ u' = .returning ∧ w' = w := by
  have C := Lib.hid (caught_nil ⟨b, 0, none⟩ w)
  refine callsD_of_wpS Tryz.func42 rfl fun c₀ cs hu => ?_
  apply wpS_region
  simp [wpOpsS, go_sem, recoverD, hu, Tryz.ntmps42]
  refine C.out.mono ?_
  rintro r w' ⟨rfl, rfl⟩
  cases c₀
  simp_all [bodyPostS, results, Tryz.results42]

theorem open1_fail (e x : Int) (b : Nat) (older : List PanicEntry) (w : World) (hc : w.cell? ⟨b, 0, none⟩ = some (.int .i64 x)) (hf : w.frozen? ⟨b, 0, none⟩ = false) :
    CallsD Tryz.prog 30 #[.pointer (some ⟨b, 0, none⟩)] (.panicking ({ v := failV e, recovered := false } :: older)) w fun r u' w' =>
      r = .returned (.tuple #[]) ∧ u' = .panicking ({ v := failV e, recovered := true } :: older) ∧ w' = (w.setCell ⟨b, 0, none⟩ (.int .i64 e)).alloc (.cells #[.int .i64 e] 53) := by
  have C := Lib.hid (caught_fail e x b w hc hf)
  clear hc hf
  refine callsD_of_wpS Tryz.func30 rfl fun c₀ cs hu => ?_
  apply wpS_region
  simp [wpOpsS, go_sem, recoverD, hu, Tryz.ntmps30]
  refine C.out.mono ?_
  rintro r w' ⟨rfl, rfl⟩
  simp [bodyPostS, results, Tryz.results30]

theorem open1_idle (b : Nat) (w : World) :
    CallsD Tryz.prog 30 #[.pointer (some ⟨b, 0, none⟩)] .returning w fun r u' w' =>
      r = .returned (.tuple #[]) ∧ u' = .returning ∧ w' = w := by
  have C := Lib.hid (caught_nil ⟨b, 0, none⟩ w)
  refine callsD_of_wpS Tryz.func30 rfl fun c₀ cs hu => ?_
  apply wpS_region
  simp [wpOpsS, go_sem, recoverD, hu, Tryz.ntmps30]
  refine C.out.mono ?_
  rintro r w' ⟨rfl, rfl⟩
  cases c₀
  simp_all [bodyPostS, results, Tryz.results30]

theorem lock1_fail (e x : Int) (b : Nat) (older : List PanicEntry) (w : World) (hc : w.cell? ⟨b, 0, none⟩ = some (.int .i64 x)) (hf : w.frozen? ⟨b, 0, none⟩ = false) :
    CallsD Tryz.prog 15 #[.pointer (some ⟨b, 0, none⟩)] (.panicking ({ v := failV e, recovered := false } :: older)) w fun r u' w' =>
      r = .returned (.tuple #[]) ∧ u' = .panicking ({ v := failV e, recovered := true } :: older) ∧ w' = (w.setCell ⟨b, 0, none⟩ (.int .i64 e)).alloc (.cells #[.int .i64 e] 53) := by
  have C := Lib.hid (caught_fail e x b w hc hf)
  clear hc hf
  refine callsD_of_wpS Tryz.func15 rfl fun c₀ cs hu => ?_
  apply wpS_region
  simp [wpOpsS, go_sem, recoverD, hu, Tryz.ntmps15]
  refine C.out.mono ?_
  rintro r w' ⟨rfl, rfl⟩
  simp [bodyPostS, results, Tryz.results15]

theorem lock1_idle (b : Nat) (w : World) :
    CallsD Tryz.prog 15 #[.pointer (some ⟨b, 0, none⟩)] .returning w fun r u' w' =>
      r = .returned (.tuple #[]) ∧ u' = .returning ∧ w' = w := by
  have C := Lib.hid (caught_nil ⟨b, 0, none⟩ w)
  refine callsD_of_wpS Tryz.func15 rfl fun c₀ cs hu => ?_
  apply wpS_region
  simp [wpOpsS, go_sem, recoverD, hu, Tryz.ntmps15]
  refine C.out.mono ?_
  rintro r w' ⟨rfl, rfl⟩
  cases c₀
  simp_all [bodyPostS, results, Tryz.results15]

end Go.Proofs.YtejjincnghmbbaaGreatDoor
