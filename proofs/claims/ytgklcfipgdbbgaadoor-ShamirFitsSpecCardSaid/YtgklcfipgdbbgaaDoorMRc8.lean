/- chartroomref08.scalar and Check. -/
import Derived.BigQuiet
import Derived.Test.YtgklcfipgdbbgaaDoorM23
namespace Go.Proofs.YtgklcfipgdbbgaaDoor
open Go.RowKit

theorem rscalar8_any (x : Int) (w : World) : Calls Tryd.prog 38 #[.int .i64 x] w fun e w' => e = .returned (.bool (!outB x)) ∧ w = w' := by
  have hcase : (x < 0 ∧ outB x = true) ∨ (0 ≤ x ∧ x < 2305843009213688669 ∧ outB x = false) ∨ (0 ≤ x ∧ 2305843009213688669 ≤ x ∧ outB x = true) := by
    unfold outB
    simp only [Bool.or_eq_true, decide_eq_true_eq, Bool.or_eq_false_iff, decide_eq_false_iff_not]
    omega
  rcases hcase with ⟨h1, hr⟩ | ⟨h1, h2, hr⟩ | ⟨h1, h2, hr⟩
  all_goals
    have HR := Lib.hid hr
    clear hr
    go_enter Tryd.func38, Tryd.ntmps38
    go_wp2_with fail
    go_ret
    exact ⟨by rw [HR.out]; first | rfl | (show Ending.returned (.bool (decide (x < 2305843009213688669))) = _; congr 2; simp; omega), rfl⟩

set_option maxRecDepth 20000 in
set_option maxHeartbeats 4000000 in
theorem rcheck_at (l : Chart.Rs) (g off cap : Nat) (h1 : 1 ≤ l.length) (h2 : l.length ≤ 64) (w : World) (hS : SAt w g off l) (hg : g < w.heap.size) :
    Calls Tryd.prog 20 #[.slice (some ⟨g, off, none⟩) l.length cap] w fun e w' => e = .returned (.int .i64 (if Chart.okFrom 0 l then 0 else 80)) ∧ Below w.heap.size w w' := by
  obtain ⟨n, hn⟩ : ∃ n, n = l.length := ⟨_, rfl⟩
  rw [← hn] at h1 h2 ⊢
  obtain ⟨z, hz⟩ : ∃ z : Int, z = if Chart.okFrom 0 l then 0 else 80 := ⟨_, rfl⟩
  rw [← hz]
  have H := Lib.hid (And.intro hS (And.intro hn hz))
  clear hS hn hz
  go_enter Tryd.func20, Tryd.ntmps20
  go_wp2_with fail
  go_loopw [3] (fun i wr => ∃ (t : Nat) (p : Int), t ≤ n ∧ i = .int .i64 t ∧ Hid (Below w.heap.size w wr ∧ Chart.okFrom 0 l = Chart.okFrom p (l.drop t) ∧ ((t = 0 ∧ p = 0) ∨ (∃ d, t = d + 1 ∧ 1 ≤ p ∧ ∃ h : d < l.length, (l[d]).1 = p)))) (fun i _ => n - (intOf i).toNat)
  case atStart => exact ⟨0, 0, by omega, rfl, Lib.hid ⟨Below.refl _ _, rfl, Or.inl ⟨rfl, rfl⟩⟩⟩
  case round =>
    obtain ⟨t, p, ht, rfl, hB⟩ := hrel
    by_cases hlt : t < n
    · have htl : t < l.length := by have := H.out.2.1; omega
      obtain ⟨x, hx⟩ : ∃ x, x = l[t] := ⟨_, rfl⟩
      have hc := H.out.1.below hB.out.1 hg t htl
      have hd := okFrom_drop l p (k := t) htl
      rw [← hx] at hc hd
      rw [okAt_out] at hd
      obtain ⟨a, y⟩ := x
      dsimp only at hc hd
      obtain ⟨k0, k1⟩ := hc
      have HD := Lib.hid (And.intro (hB.out.2.1.trans hd) (show (l[t]).1 = a by rw [← hx]))
      clear hd hx
      have C := rscalar8_any y
      rcases hB.out.2.2 with ⟨rfl, rfl⟩ | ⟨d, htd, hp1, hdl, hpd⟩
      · rw [Nat.zero_mul, Nat.add_zero] at k0 k1
        have hn0 : (0 : Int) < (n : Int) := by omega
        have hcase : (a < 1) ∨ (1 ≤ a ∧ 64 < a) ∨ (1 ≤ a ∧ a ≤ 64) := by omega
        rcases hcase with b1 | ⟨b1, b2⟩ | ⟨b1, b2⟩
        · have hz : z = 80 := by rw [H.out.2.2, HD.out.1]; simp [show a ≤ 0 by omega]
          subst hz
          go_wp2_with fail
          go_quiet (exact Calls.quiet_of_same (stillOf (C _)))
          go_wp2_with fail
          go_ret
          exact ⟨rfl, hB.out.1.trans (Below.of_drewN _ _ _)⟩
        · have d1 : decide (a < 1) = false := decide_eq_false (by omega)
          have hz : z = 80 := by rw [H.out.2.2, HD.out.1]; simp [show a > 64 by omega]
          subst hz
          go_wp2_with fail
          go_quiet (exact Calls.quiet_of_same (stillOf (C _)))
          go_wp2_with fail
          go_ret
          exact ⟨rfl, hB.out.1.trans (Below.of_drewN _ _ _)⟩
        · have f1 : ¬ a ≤ 0 := by omega
          have f2 : ¬ a > 64 := by omega
          have d1 : decide (a < 1) = false := decide_eq_false (by omega)
          have d2 : decide (64 < a) = false := decide_eq_false (by omega)
          cases ho : outB y
          · rw [ho] at C HD
            have HZ := Lib.hid (show Chart.okFrom 0 l = Chart.okFrom a (l.drop (0 + 1)) by rw [HD.out.1]; simp [f1, f2])
            go_wp2_with fail
            go_quiet (exact Calls.quiet_of_same (stillOf (C _)))
            go_wp2_with fail
            refine ⟨⟨0 + 1, a, by omega, by go_num, Lib.hid ⟨hB.out.1.trans (Below.of_drewN _ _ _), HZ.out, Or.inr ⟨0, rfl, by omega, htl, HD.out.2⟩⟩⟩, by simp [intOf]; omega⟩
          · rw [ho] at C HD
            have hz : z = 80 := by rw [H.out.2.2, HD.out.1]; simp [f1, f2]
            subst hz
            go_wp2_with fail
            go_quiet (exact Calls.quiet_of_same (stillOf (C _)))
            go_wp2_with fail
            go_ret
            exact ⟨rfl, hB.out.1.trans (Below.of_drewN _ _ _)⟩
      · have kp : wr.cell? ⟨g, off + d * 2, none⟩ = some (.int .i64 p) := by
          have := (H.out.1.below hB.out.1 hg d hdl).1
          rw [hpd] at this
          exact this
        have e1 : IntKind.i64.wrap ((t : Int) - 1) = (d : Int) := by rw [wrap_i64_small _ (by omega) (by omega)]; omega
        have ht0 : 0 < (t : Int) := by omega
        have htn : (t : Int) < (n : Int) := by omega
        have d0 : decide (0 < t) = true := decide_eq_true (by omega)
        have hdn : (d : Int) < (n : Int) := by omega
        clear htd hpd hdl
        have hcase : (a < 1) ∨ (1 ≤ a ∧ 64 < a) ∨ (1 ≤ a ∧ a ≤ 64 ∧ a ≤ p) ∨ (1 ≤ a ∧ a ≤ 64 ∧ p < a) := by omega
        rcases hcase with b1 | ⟨b1, b2⟩ | ⟨b1, b2, b3⟩ | ⟨b1, b2, b3⟩
        · have hz : z = 80 := by rw [H.out.2.2, HD.out.1]; simp [show a ≤ p by omega]
          subst hz
          go_wp2_with fail
          go_quiet (exact Calls.quiet_of_same (stillOf (C _)))
          go_wp2_with fail
          go_ret
          exact ⟨rfl, hB.out.1.trans (Below.of_drewN _ _ _)⟩
        · have d1 : decide (a < 1) = false := decide_eq_false (by omega)
          have hz : z = 80 := by rw [H.out.2.2, HD.out.1]; simp [show a > 64 by omega]
          subst hz
          go_wp2_with fail
          go_quiet (exact Calls.quiet_of_same (stillOf (C _)))
          go_wp2_with fail
          go_ret
          exact ⟨rfl, hB.out.1.trans (Below.of_drewN _ _ _)⟩
        · have d1 : decide (a < 1) = false := decide_eq_false (by omega)
          have d2 : decide (64 < a) = false := decide_eq_false (by omega)
          have hz : z = 80 := by rw [H.out.2.2, HD.out.1]; simp [show a ≤ p by omega]
          subst hz
          go_wp2_with fail
          go_quiet (exact Calls.quiet_of_same (stillOf (C _)))
          go_wp2_with fail
          go_ret
          exact ⟨rfl, hB.out.1.trans (Below.of_drewN _ _ _)⟩
        · have f1 : ¬ a ≤ p := by omega
          have f2 : ¬ a > 64 := by omega
          have d3 : decide (a ≤ p) = false := decide_eq_false (by omega)
          have d1 : decide (a < 1) = false := decide_eq_false (by omega)
          have d2 : decide (64 < a) = false := decide_eq_false (by omega)
          cases ho : outB y
          · rw [ho] at C HD
            have HZ := Lib.hid (show Chart.okFrom 0 l = Chart.okFrom a (l.drop (t + 1)) by rw [HD.out.1]; simp [f1, f2])
            go_wp2_with fail
            go_quiet (exact Calls.quiet_of_same (stillOf (C _)))
            go_wp2_with fail
            refine ⟨⟨t + 1, a, by omega, by go_num, Lib.hid ⟨hB.out.1.trans (Below.of_drewN _ _ _), HZ.out, Or.inr ⟨t, rfl, by omega, htl, HD.out.2⟩⟩⟩, by simp [intOf]; omega⟩
          · rw [ho] at C HD
            have hz : z = 80 := by rw [H.out.2.2, HD.out.1]; simp [f1, f2]
            subst hz
            go_wp2_with fail
            go_quiet (exact Calls.quiet_of_same (stillOf (C _)))
            go_wp2_with fail
            go_ret
            exact ⟨rfl, hB.out.1.trans (Below.of_drewN _ _ _)⟩
    · obtain rfl : t = n := by omega
      have hz : z = 0 := by rw [H.out.2.2, hB.out.2.1, List.drop_of_length_le (by have := H.out.2.1; omega)]; rfl
      subst hz
      go_wp2_with fail
      go_ret
      exact ⟨rfl, hB.out.1⟩

theorem rcheck_out (a : Option Addr) (n cap : Nat) (h : n < 1 ∨ 64 < n) (w : World) :
    Calls Tryd.prog 20 #[.slice a n cap] w fun e w' => e = .returned (.int .i64 80) ∧ w = w' := by
  by_cases h1 : n < 1
  · obtain rfl : n = 0 := by omega
    clear h h1
    go_enter Tryd.func20, Tryd.ntmps20
    go_wp2_with fail
    go_ret
    exact ⟨rfl, rfl⟩
  · have h2 : 64 < n := by omega
    clear h
    go_enter Tryd.func20, Tryd.ntmps20
    go_wp2_with fail
    go_ret
    exact ⟨rfl, rfl⟩
theorem rcheck_any (v : Value) (l : Chart.Rs) (w : World) (hS : Sv w.heap.size w v l) :
    Calls Tryd.prog 20 #[v] w fun e w' => e = .returned (.int .i64 (shErr l)) ∧ Below w.heap.size w w' := by
  obtain ⟨a, cap, rfl, hc, hx⟩ := hS.shape
  by_cases h : l.length < 1 ∨ 64 < l.length
  · rw [shErr_out l h]
    refine (rcheck_out a l.length cap h w).mono ?_
    rintro e w' ⟨rfl, rfl⟩
    exact ⟨rfl, Below.refl _ _⟩
  · obtain ⟨g, off, rfl, hg, hS⟩ := hx (by intro h0; subst h0; simp at h)
    rw [shErr_in l (by omega) (by omega)]
    exact rcheck_at l g off cap (by omega) (by omega) w hS hg
end Go.Proofs.YtgklcfipgdbbgaaDoor
