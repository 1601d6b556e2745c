/- chartroomlaw11.ProxyFactors, walked. -/
import Derived.Test.YtejjincnghmbbaaDoorM24
namespace Go.Proofs.YtejjincnghmbbaaDoor
open Go.RowKit

set_option maxRecDepth 20000 in
set_option maxHeartbeats 4000000 in
theorem factors_walk (a b c : Int) (w : World) (hl : Laid w) :
    Calls Tryd.prog 6 #[.int .i64 a, .int .i64 b, .int .i64 c] w fun e w' => e = .returned (.bool true) ∧ Below w.heap.size w w' := by
  have K1 := refKey_any a
  have K2 := refKey_any b
  have K3 := refKey_any c
  have hx0 := keyZ_pos a; have hy0 := keyZ_pos b; have hz0 := keyZ_pos c
  have hx := keyZ_lt a; have hy := keyZ_lt b; have hz := keyZ_lt c
  generalize keyZ a = x at *
  generalize keyZ b = y at *
  generalize keyZ c = z at *
  have C1 := factor_ok x y hx0 hx hy0 hy
  have C2 := factor_ok y z hy0 hy hz0 hz
  have C3 := factor_ok x z hx0 hx hz0 hz
  have C4 := factor_ok y x hy0 hy hx0 hx
  have C5 := factor_ok x x hx0 hx hx0 hx
  have C6 := fmul_any (Chart.factor x y) (Chart.factor y z) (Chart.factor_lt _ _) (Chart.factor_lt _ _)
  have C7 := fmul_any (Chart.factor x y) (Chart.factor y x) (Chart.factor_lt _ _) (Chart.factor_lt _ _)
  rw [Chart.factor_self hx0 hx] at C5
  rw [Chart.factor_trans z hy0 hy] at C6
  rw [Chart.factor_back hx0 hx hy0 hy] at C7
  generalize Chart.factor x y = m at *
  generalize Chart.factor y z = n at *
  generalize Chart.factor x z = o at *
  generalize Chart.factor y x = p at *
  replace K1 := Lib.hid K1; replace K2 := Lib.hid K2; replace K3 := Lib.hid K3
  replace C1 := Lib.hid C1; replace C2 := Lib.hid C2; replace C3 := Lib.hid C3; replace C4 := Lib.hid C4; replace C5 := Lib.hid C5; replace C6 := Lib.hid C6; replace C7 := Lib.hid C7
  clear hx0 hy0 hz0 hx hy hz
  have F0 := Lib.hid (And.intro (Below.refl w.heap.size w) hl)
  clear hl
  go_enter Tryd.func6, Tryd.ntmps6
  go_wp2_with fail
  refine (sane_ok w F0.out.2).mono ?_
  rintro e v1 ⟨rfl, hB1⟩
  have F2 := Lib.hid (And.intro (F0.out.1.trans (hB1.mono F0.out.1.size)) (F0.out.2.below hB1 (Nat.lt_of_lt_of_le F0.out.2.numLt (Nat.le_refl _)) (Nat.lt_of_lt_of_le F0.out.2.startLt (Nat.le_refl _))))
  clear hB1
  go_wp2_with fail
  refine (K1.out v1).mono ?_
  rintro e v3 ⟨rfl, rfl⟩
  go_wp2_with fail
  refine (K2.out v1).mono ?_
  rintro e v4 ⟨rfl, rfl⟩
  go_wp2_with fail
  refine (K3.out v1).mono ?_
  rintro e v5 ⟨rfl, rfl⟩
  go_wp2_with fail
  refine (C1.out v1).mono ?_
  rintro e v6 ⟨rfl, hB6⟩
  have F7 := Lib.hid (And.intro (F2.out.1.trans (hB6.mono F2.out.1.size)) (F2.out.2.below hB6 (Nat.lt_of_lt_of_le F2.out.2.numLt (Nat.le_refl _)) (Nat.lt_of_lt_of_le F2.out.2.startLt (Nat.le_refl _))))
  clear hB6
  go_wp2_with fail
  refine (C2.out v6).mono ?_
  rintro e v8 ⟨rfl, hB8⟩
  have F9 := Lib.hid (And.intro (F7.out.1.trans (hB8.mono F7.out.1.size)) (F7.out.2.below hB8 (Nat.lt_of_lt_of_le F7.out.2.numLt (Nat.le_refl _)) (Nat.lt_of_lt_of_le F7.out.2.startLt (Nat.le_refl _))))
  clear hB8
  go_wp2_with fail
  refine (C3.out v8).mono ?_
  rintro e v10 ⟨rfl, hB10⟩
  have F11 := Lib.hid (And.intro (F9.out.1.trans (hB10.mono F9.out.1.size)) (F9.out.2.below hB10 (Nat.lt_of_lt_of_le F9.out.2.numLt (Nat.le_refl _)) (Nat.lt_of_lt_of_le F9.out.2.startLt (Nat.le_refl _))))
  clear hB10
  go_wp2_with fail
  refine (C4.out v10).mono ?_
  rintro e v12 ⟨rfl, hB12⟩
  have F13 := Lib.hid (And.intro (F11.out.1.trans (hB12.mono F11.out.1.size)) (F11.out.2.below hB12 (Nat.lt_of_lt_of_le F11.out.2.numLt (Nat.le_refl _)) (Nat.lt_of_lt_of_le F11.out.2.startLt (Nat.le_refl _))))
  clear hB12
  go_wp2_with fail
  refine (C5.out v12).mono ?_
  rintro e v14 ⟨rfl, hB14⟩
  have F15 := Lib.hid (And.intro (F13.out.1.trans (hB14.mono F13.out.1.size)) (F13.out.2.below hB14 (Nat.lt_of_lt_of_le F13.out.2.numLt (Nat.le_refl _)) (Nat.lt_of_lt_of_le F13.out.2.startLt (Nat.le_refl _))))
  clear hB14
  go_wp2_with fail
  refine (C6.out v14).mono ?_
  rintro e v16 ⟨rfl, hB16⟩
  have F17 := Lib.hid (And.intro (F15.out.1.trans (hB16.mono F15.out.1.size)) (F15.out.2.below hB16 (Nat.lt_of_lt_of_le F15.out.2.numLt (Nat.le_refl _)) (Nat.lt_of_lt_of_le F15.out.2.startLt (Nat.le_refl _))))
  clear hB16
  go_wp2_with fail
  refine (C7.out v16).mono ?_
  rintro e v18 ⟨rfl, hB18⟩
  have F19 := Lib.hid (And.intro (F17.out.1.trans (hB18.mono F17.out.1.size)) (F17.out.2.below hB18 (Nat.lt_of_lt_of_le F17.out.2.numLt (Nat.le_refl _)) (Nat.lt_of_lt_of_le F17.out.2.startLt (Nat.le_refl _))))
  clear hB18
  go_wp2_with fail
  go_ret
  exact ⟨rfl, F19.out.1⟩
end Go.Proofs.YtejjincnghmbbaaDoor
