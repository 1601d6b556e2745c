/- proxy.Lock: a public key that is no element. -/
import Derived.Test.YtejjincnghmbbaaGreatDoorM21
import Derived.Test.YtejjincnghmbbaaGreatDoorM22
namespace Go.Proofs.YtejjincnghmbbaaGreatDoor
open Go.RowKit

set_option maxRecDepth 20000 in
set_option maxHeartbeats 4000000 in
theorem lock_bad (y : Int) (k seed : List UInt8) (hy : ¬ IsGrp y) (w : World) :
    Calls Tryz.prog 5 #[.int .i64 y, .agg (k.map u8v).toArray, .agg (seed.map u8v).toArray] w fun e w' =>
      e = .returned (.tuple #[.agg zeroCap.toArray, .int .i64 40]) ∧ Below w.heap.size w w' := by
  have hmf : ∀ (fn : Fn) (first cap : Array Value) (w : World), (Instr.makeFunc fn first cap).run Tryz.prog w = .ok (.func fn first cap) w := fun _ _ _ _ => rfl
  have C1 := Lib.hid (gcheck_bad y hy)
  obtain ⟨a, ha⟩ : ∃ d, d = k.map u8v := ⟨_, rfl⟩
  obtain ⟨b, hb⟩ : ∃ d, d = seed.map u8v := ⟨_, rfl⟩
  rw [← ha, ← hb]
  obtain ⟨w1, hw1⟩ : ∃ x, x = w.alloc (.cells #[.int .i64 y] 3) := ⟨_, rfl⟩
  obtain ⟨w2, hw2⟩ : ∃ x, x = w1.alloc (.cells a.toArray 23) := ⟨_, rfl⟩
  obtain ⟨w3, hw3⟩ : ∃ x, x = w2.alloc (.cells b.toArray 23) := ⟨_, rfl⟩
  obtain ⟨w4, hw4⟩ : ∃ x, x = w3.alloc (.cells #[.int .i64 0, .int .i64 0, .int .u8 0, .int .u8 0, .int .u8 0, .int .u8 0, .int .u8 0, .int .u8 0, .int .u8 0, .int .u8 0, .int .u8 0, .int .u8 0, .int .u8 0, .int .u8 0, .int .u8 0, .int .u8 0, .int .u8 0, .int .u8 0, .int .u8 0, .int .u8 0, .int .u8 0, .int .u8 0, .int .u8 0, .int .u8 0, .int .u8 0, .int .u8 0, .int .u8 0, .int .u8 0, .int .u8 0, .int .u8 0, .int .u8 0, .int .u8 0, .int .u8 0, .int .u8 0] 25) := ⟨_, rfl⟩
  obtain ⟨w5, hw5⟩ : ∃ x, x = w4.alloc (.cells #[.int .i64 0] 27) := ⟨_, rfl⟩
  have s1 : w1.heap.size = w.heap.size + 1 := by rw [hw1]; simp
  have s2 : w2.heap.size = w.heap.size + 1 + 1 := by rw [hw2]; simp [s1]
  have s3 : w3.heap.size = w.heap.size + 1 + 1 + 1 := by rw [hw3]; simp [s2]
  have s4 : w4.heap.size = w.heap.size + 1 + 1 + 1 + 1 := by rw [hw4]; simp [s3]
  have r1 : RowIs w5 w.heap.size 3 [.int .i64 y] := by
    rw [hw5, hw4, hw3, hw2]
    refine RowIs.alloc (RowIs.alloc (RowIs.alloc (RowIs.alloc ?_ _) _) _) _
    rw [hw1]; exact RowIs.new w [.int .i64 y] _
  have r4 : RowIs w5 (w.heap.size + 1 + 1 + 1) 25 zeroCap := by
    rw [hw5]
    refine RowIs.alloc ?_ _
    rw [hw4, ← s3, zeroCap_eq]; exact RowIs.new w3 _ _
  have r5 : RowIs w5 (w.heap.size + 1 + 1 + 1 + 1) 27 [.int .i64 0] := by
    rw [hw5, ← s4]; exact RowIs.new w4 [.int .i64 0] _
  have hB : Below w.heap.size w w5 := by
    rw [hw5, hw4, hw3, hw2, hw1]
    exact (((((Below.refl _ w).alloc (Nat.le_refl _) _).alloc (by simp) _).alloc (by simp; omega) _).alloc (by simp; omega) _).alloc (by simp; omega) _
  have c1 := (r1.cell 0).trans (show _ = some (Value.int .i64 y) from rfl)
  obtain ⟨zc, hzc⟩ : ∃ zc, zc = zeroCap := ⟨_, rfl⟩
  have hzl : zc.length = 34 := by rw [hzc]; rfl
  have hz1 : ∀ v ∈ zc, v.oneCell' = true := by rw [hzc]; exact oneCell_cap _ _ _
  rw [← hzc] at r4 ⊢
  have HH := Lib.hid (And.intro r4 (And.intro r5 hB))
  clear hzc r1 r4 r5 hB ha hb s1 s2 s3 s4 hy
  go_enter_defers Tryz.func5, Tryz.ntmps5
  go_upto_region 1 with fail
  rw [← hw1, ← hw2, ← hw3, ← hw4, ← hw5]
  clear hw1 hw2 hw3 hw4 hw5
  go_wp2_with fail
  refine (C1.out _).mono ?_
  rintro e w6 ⟨rfl, hB6⟩
  have h4 := HH.out.1.below hB6 HH.out.1.lt
  have h5 := HH.out.2.1.below hB6 HH.out.2.1.lt
  have hB := HH.out.2.2.trans (hB6.mono HH.out.2.2.size)
  have c6 := (h5.cell 0).trans (show _ = some (Value.int .i64 0) from rfl)
  have f6 := h5.frozen 0
  have H6 := Lib.hid (And.intro h4 (And.intro h5 hB))
  clear h4 h5 hB hB6 c1
  go_upto_region 2 with fail
  obtain ⟨w7, hw7⟩ : ∃ x, x = w6.setCell ⟨w.heap.size + 1 + 1 + 1 + 1, 0, none⟩ (.int .i64 40) := ⟨_, rfl⟩
  rw [← hw7]
  have h5 := H6.out.2.1.set 0 (.int .i64 40)
  have h4 := H6.out.1.apart (Apart.setCell w6 (w.heap.size + 1 + 1 + 1 + 1) 0 (.int .i64 40)) (by omega)
  have hB := below_setCell H6.out.2.2 (show w.heap.size ≤ w.heap.size + 1 + 1 + 1 + 1 by omega) 0 (.int .i64 40)
  rw [← hw7] at h4 h5 hB
  have c7 := (h5.cell 0).trans (show _ = some (Value.int .i64 40) from rfl)
  have f7 := h5.frozen 0
  have E7 := h4.loads (P := Tryz.prog) 34 hzl
  have E7' := (show RowIs w7.drew _ _ _ from h4).loads (P := Tryz.prog) 34 hzl
  have E8 := (show RowIs w7.drew _ _ _ from h4).stores (P := Tryz.prog) zc rfl hz1
  obtain ⟨w8, hw8⟩ : ∃ x, x = w7.drew.setRow (w.heap.size + 1 + 1 + 1) zc.toArray := ⟨_, rfl⟩
  rw [← hw8] at E8
  have h48 : RowIs w8 (w.heap.size + 1 + 1 + 1) 25 zc := by rw [hw8]; exact (show RowIs w7.drew _ _ _ from h4).setRow _
  have h58 : RowIs w8 (w.heap.size + 1 + 1 + 1 + 1) 27 [.int .i64 40] := by rw [hw8]; exact (heap_setRow_other _ _ _ _ (by omega)).trans h5
  have hB8 : Below w.heap.size w w8 := by rw [hw8]; exact below_setRow (hB.trans ((drew_below w7).mono hB.size)) (by omega) _
  have c8 := (h58.cell 0).trans (show _ = some (Value.int .i64 40) from rfl)
  have f8 := h58.frozen 0
  have H8 := Lib.hid (And.intro h48 (And.intro h58 hB8))
  clear h4 h5 hB h48 h58 hB8 hw7 hw8 c6 f6
  go_wp2_with fail
  refine wp_only ?_
  go_region
  all_goals
    refine Exit.then_normal ?_
    go_wp2_with fail
    refine ⟨.tuple #[.agg zc.toArray, .int .i64 40], results_row_cell rfl _ _ (w.heap.size + 1 + 1 + 1) _ zc.toArray (0, 0) _ rfl (H8.out.1.apart (Apart.setCell w8 (w.heap.size + 1 + 1 + 1 + 1) 0 (.int .i64 40)) (by omega)) Tryz.underlying25 rfl (by rw [List.size_toArray, hzl]; kernel_rfl) (w.heap.size + 1 + 1 + 1 + 1) 0 (.int .i64 40) rfl (isAgg_int .i64 (by kernel_rfl)) ((H8.out.2.1.set 0 _).cell 0), rfl, below_setCell H8.out.2.2 (by omega) _ _⟩
end Go.Proofs.YtejjincnghmbbaaGreatDoor
