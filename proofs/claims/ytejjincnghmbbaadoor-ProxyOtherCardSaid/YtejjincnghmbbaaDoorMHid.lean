/- chartroomlaw11.hidden: what a private key finds in a capsule. -/
import Derived.Test.YtejjincnghmbbaaDoorMRs6
import Derived.Test.YtejjincnghmbbaaDoorM24
namespace Go.Proofs.YtejjincnghmbbaaDoor
open Go.RowKit

set_option maxRecDepth 20000 in
set_option maxHeartbeats 4000000 in
theorem hidden_ok (y a b : Nat) (pad : List UInt8) (hpad : pad.length = 32) (hy0 : 0 < y) (hy : y < Chart.Q) (ga : Grp a) (gb : Grp b) (w : World) :
    Calls Tryd.prog 21 #[.int .i64 y, .agg (capV (a : Int) (b : Int) pad).toArray] w fun e w' => e = two ((Chart.found y a b : Nat) : Int) 0 ∧ Below w.heap.size w w' := by
  have C1 := finv_ok y hy0 hy
  have C2 := gexp_ok a (Chart.finv y) ga (Chart.finv_lt y)
  have C3 := ginv_ok (a ^ Chart.finv y % PP) (ga.pow _)
  have C4 := gmul_ok b ((a ^ Chart.finv y % PP) ^ (Chart.Q - 1) % PP) gb ((ga.pow _).pow _)
  rw [show b * ((a ^ Chart.finv y % PP) ^ (Chart.Q - 1) % PP) % PP = Chart.found y a b from rfl] at C4
  obtain ⟨z3, hz3⟩ : ∃ z, z = (a ^ Chart.finv y % PP) ^ (Chart.Q - 1) % PP := ⟨_, rfl⟩
  rw [← hz3] at C3 C4
  obtain ⟨z2, hz2⟩ : ∃ z, z = a ^ Chart.finv y % PP := ⟨_, rfl⟩
  rw [← hz2] at C2 C3
  obtain ⟨z1, hz1⟩ : ∃ z, z = Chart.finv y := ⟨_, rfl⟩
  rw [show y ^ (Chart.Q - 2) % Chart.Q = z1 from hz1.symm] at C1
  rw [← hz1] at C2
  generalize Chart.found y a b = z4 at *
  clear hz1 hz2 hz3
  obtain ⟨c, hc⟩ : ∃ c, c = capV (a : Int) (b : Int) pad := ⟨_, rfl⟩
  have c0 : c[0]? = some (.int .i64 a) := by rw [hc]; rfl
  have c1 : c[1]? = some (.int .i64 b) := by rw [hc]; rfl
  have hcl : c.length = 34 := by rw [hc]; exact capV_length _ _ hpad
  rw [← hc]
  obtain ⟨w1, hw1⟩ : ∃ x, x = w.alloc (.cells c.toArray 25) := ⟨_, rfl⟩
  have r1 : RowIs w1 w.heap.size 25 c := by rw [hw1]; exact RowIs.new w c _
  have hB1 : Below w.heap.size w w1 := by rw [hw1]; exact (Below.refl _ w).alloc (Nat.le_refl _) _
  have F1 := Lib.hid (And.intro hB1 r1)
  replace C1 := Lib.hid C1; replace C2 := Lib.hid C2; replace C3 := Lib.hid C3; replace C4 := Lib.hid C4
  clear hc hB1 r1
  go_enter Tryd.func21, Tryd.ntmps21
  go_upto_region 1 with fail
  rw [← hw1]
  clear hw1
  go_wp2_with fail
  refine (C1.out w1).mono ?_
  rintro e w2 ⟨rfl, hB2⟩
  have F2 := Lib.hid (And.intro (F1.out.1.trans (hB2.mono F1.out.1.size)) (F1.out.2.below hB2 F1.out.2.lt))
  have k0 := (F2.out.2.cell 0).trans c0
  clear hB2
  go_wp2_with fail
  refine (C2.out w2).mono ?_
  rintro e w3 ⟨rfl, hB3⟩
  have F3 := Lib.hid (And.intro (F2.out.1.trans (hB3.mono F2.out.1.size)) (F2.out.2.below hB3 F2.out.2.lt))
  clear hB3 k0
  go_wp2_with fail
  refine (C3.out w3).mono ?_
  rintro e w4 ⟨rfl, hB4⟩
  have F4 := Lib.hid (And.intro (F3.out.1.trans (hB4.mono F3.out.1.size)) (F3.out.2.below hB4 F3.out.2.lt))
  have k1 := (F4.out.2.cell 1).trans c1
  clear hB4
  go_wp2_with fail
  refine (C4.out w4).mono ?_
  rintro e w5 ⟨rfl, hB5⟩
  have F5 := Lib.hid (F4.out.1.trans (hB5.mono F4.out.1.size))
  clear hB5 k1
  go_wp2_with fail
  go_ret2
  exact ⟨rfl, F5.out⟩
end Go.Proofs.YtejjincnghmbbaaDoor
