/- proxy.Open: a number that is no private key; a capsule that is not valid. -/
import Derived.Test.YtejjincnghmbbaaGreatDoorM22
namespace Go.Proofs.YtejjincnghmbbaaGreatDoor
open Go.RowKit

set_option maxRecDepth 20000 in
theorem open_key (x a b : Int) (pad : List UInt8) (hp : pad.length = 32) (hn : NoKey x) (w : World) :
    Calls Tryz.prog 7 #[.int .i64 x, .agg (capV a b pad).toArray] w fun e w' =>
      e = .returned (.tuple #[.agg zeroKey.toArray, .int .i64 50]) ∧ Below w.heap.size w w' := by
  have hmf : ∀ (fn : Fn) (first cap : Array Value) (w : World), (Instr.makeFunc fn first cap).run Tryz.prog w = .ok (.func fn first cap) w := fun _ _ _ _ => rfl
  obtain ⟨c, hc⟩ : ∃ c, c = capV a b pad := ⟨_, rfl⟩
  have hcl : c.length = 34 := by rw [hc]; exact capV_length _ _ hp
  have C1 := Lib.hid (isPrivate_bad x hn)
  rw [← hc]
  obtain ⟨w1, hw1⟩ : ∃ y, y = w.alloc (.cells #[.int .i64 x] 3) := ⟨_, rfl⟩
  obtain ⟨w2, hw2⟩ : ∃ x, x = w1.alloc (.cells c.toArray 25) := ⟨_, rfl⟩
  obtain ⟨w3, hw3⟩ : ∃ x, x = w2.alloc (.cells #[.int .u8 0, .int .u8 0, .int .u8 0, .int .u8 0, .int .u8 0, .int .u8 0, .int .u8 0, .int .u8 0, .int .u8 0, .int .u8 0, .int .u8 0, .int .u8 0, .int .u8 0, .int .u8 0, .int .u8 0, .int .u8 0, .int .u8 0, .int .u8 0, .int .u8 0, .int .u8 0, .int .u8 0, .int .u8 0, .int .u8 0, .int .u8 0, .int .u8 0, .int .u8 0, .int .u8 0, .int .u8 0, .int .u8 0, .int .u8 0, .int .u8 0, .int .u8 0] 23) := ⟨_, rfl⟩
  obtain ⟨w4, hw4⟩ : ∃ x, x = w3.alloc (.cells #[.int .i64 0] 27) := ⟨_, rfl⟩
  have s1 : w1.heap.size = w.heap.size + 1 := by rw [hw1]; simp
  have s2 : w2.heap.size = w.heap.size + 1 + 1 := by rw [hw2]; simp [s1]
  have s3 : w3.heap.size = w.heap.size + 1 + 1 + 1 := by rw [hw3]; simp [s2]
  have r1 : RowIs w4 w.heap.size 3 [.int .i64 x] := by
    rw [hw4, hw3, hw2]
    refine RowIs.alloc (RowIs.alloc (RowIs.alloc ?_ _) _) _
    rw [hw1]; exact RowIs.new w [.int .i64 x] _
  have r2 : RowIs w4 (w.heap.size + 1) 25 c := by
    rw [hw4, hw3]
    refine RowIs.alloc (RowIs.alloc ?_ _) _
    rw [hw2, ← s1]; exact RowIs.new w1 c _
  have r3 : RowIs w4 (w.heap.size + 1 + 1) 23 zeroKey := by
    rw [hw4]
    refine RowIs.alloc ?_ _
    rw [hw3, ← s2]; exact RowIs.new w2 (List.replicate 32 (u8v 0)) _
  have r4 : RowIs w4 (w.heap.size + 1 + 1 + 1) 27 [.int .i64 0] := by
    rw [hw4, ← s3]; exact RowIs.new w3 [.int .i64 0] _
  have hB : Below w.heap.size w w4 := by
    rw [hw4, hw3, hw2, hw1]
    exact ((((Below.refl _ w).alloc (Nat.le_refl _) _).alloc (by simp) _).alloc (by simp; omega) _).alloc (by simp; omega) _
  have E1 := r2.loads (P := Tryz.prog) 34 hcl
  have c1 := (r1.cell 0).trans (show _ = some (Value.int .i64 x) from rfl)
  have HH := Lib.hid (And.intro r3 (And.intro r4 hB))
  have c0 := (r4.cell 0).trans (show _ = some (Value.int .i64 0) from rfl)
  have f0 := r4.frozen 0
  clear r1 r2 r3 r4 hB hc s1 s2 s3 E1 hn
  go_enter_defers Tryz.func7, Tryz.ntmps7
  go_upto_region 1 with fail
  rw [← hw1, ← hw2, ← hw3, ← hw4]
  clear hw1 hw2 hw3 hw4
  go_wp2_with fail
  refine (C1.out _).mono ?_
  rintro e w5 ⟨rfl, rfl⟩
  go_wp2_with fail
  refine (demand_bad _ _).mono ?_
  rintro e w5 ⟨rfl, rfl⟩
  go_wp2_with fail
  refine leaves_cons (f := 30) (args := #[.pointer (some ⟨w.heap.size + 1 + 1 + 1, 0, none⟩)]) (by simp) (by simp [go_sem]) ?_
  refine (open1_fail 50 0 (w.heap.size + 1 + 1 + 1) [] _ c0 f0).mono ?_
  rintro e u' w9 ⟨rfl, rfl, rfl⟩
  have h2 := (HH.out.1.apart (Apart.setCell w4 (w.heap.size + 1 + 1 + 1) 0 (.int .i64 50)) (by omega)).alloc (.cells #[.int .i64 50] 53)
  refine ⟨.tuple #[.agg zeroKey.toArray, .int .i64 50], results_row_cell (d := .array 32 5) rfl _ _ (w.heap.size + 1 + 1) _ zeroKey.toArray (0, 0) rfl h2 (by kernel_rfl) rfl (by kernel_rfl) (w.heap.size + 1 + 1 + 1) 0 (.int .i64 50) rfl (isAgg_int .i64 (by kernel_rfl)) (((HH.out.2.1.set 0 _).alloc _).cell 0), rfl, (below_setCell HH.out.2.2 (by omega) _ _).alloc (by simpa using HH.out.2.2.size) _⟩

set_option maxRecDepth 20000 in
theorem open_cap (x : Int) (h1 : 1 ≤ x) (h2 : x < 2305843009213688669) (a b : Int) (pad : List UInt8) (hp : pad.length = 32) (hn : ¬ (IsGrp a ∧ IsGrp b)) (w : World) :
    Calls Tryz.prog 7 #[.int .i64 x, .agg (capV a b pad).toArray] w fun e w' =>
      e = .returned (.tuple #[.agg zeroKey.toArray, .int .i64 110]) ∧ Below w.heap.size w w' := by
  have hmf : ∀ (fn : Fn) (first cap : Array Value) (w : World), (Instr.makeFunc fn first cap).run Tryz.prog w = .ok (.func fn first cap) w := fun _ _ _ _ => rfl
  obtain ⟨c, hc⟩ : ∃ c, c = capV a b pad := ⟨_, rfl⟩
  have hcl : c.length = 34 := by rw [hc]; exact capV_length _ _ hp
  have C1 := Lib.hid (isPrivate_ok x h1 h2)
  have C2 := Lib.hid (pcheck_bad a b pad hn)
  rw [← hc] at C2 ⊢
  obtain ⟨w1, hw1⟩ : ∃ y, y = w.alloc (.cells #[.int .i64 x] 3) := ⟨_, rfl⟩
  obtain ⟨w2, hw2⟩ : ∃ x, x = w1.alloc (.cells c.toArray 25) := ⟨_, rfl⟩
  obtain ⟨w3, hw3⟩ : ∃ x, x = w2.alloc (.cells #[.int .u8 0, .int .u8 0, .int .u8 0, .int .u8 0, .int .u8 0, .int .u8 0, .int .u8 0, .int .u8 0, .int .u8 0, .int .u8 0, .int .u8 0, .int .u8 0, .int .u8 0, .int .u8 0, .int .u8 0, .int .u8 0, .int .u8 0, .int .u8 0, .int .u8 0, .int .u8 0, .int .u8 0, .int .u8 0, .int .u8 0, .int .u8 0, .int .u8 0, .int .u8 0, .int .u8 0, .int .u8 0, .int .u8 0, .int .u8 0, .int .u8 0, .int .u8 0] 23) := ⟨_, rfl⟩
  obtain ⟨w4, hw4⟩ : ∃ x, x = w3.alloc (.cells #[.int .i64 0] 27) := ⟨_, rfl⟩
  have s1 : w1.heap.size = w.heap.size + 1 := by rw [hw1]; simp
  have s2 : w2.heap.size = w.heap.size + 1 + 1 := by rw [hw2]; simp [s1]
  have s3 : w3.heap.size = w.heap.size + 1 + 1 + 1 := by rw [hw3]; simp [s2]
  have r1 : RowIs w4 w.heap.size 3 [.int .i64 x] := by
    rw [hw4, hw3, hw2]
    refine RowIs.alloc (RowIs.alloc (RowIs.alloc ?_ _) _) _
    rw [hw1]; exact RowIs.new w [.int .i64 x] _
  have r2 : RowIs w4 (w.heap.size + 1) 25 c := by
    rw [hw4, hw3]
    refine RowIs.alloc (RowIs.alloc ?_ _) _
    rw [hw2, ← s1]; exact RowIs.new w1 c _
  have r3 : RowIs w4 (w.heap.size + 1 + 1) 23 zeroKey := by
    rw [hw4]
    refine RowIs.alloc ?_ _
    rw [hw3, ← s2]; exact RowIs.new w2 (List.replicate 32 (u8v 0)) _
  have r4 : RowIs w4 (w.heap.size + 1 + 1 + 1) 27 [.int .i64 0] := by
    rw [hw4, ← s3]; exact RowIs.new w3 [.int .i64 0] _
  have hB : Below w.heap.size w w4 := by
    rw [hw4, hw3, hw2, hw1]
    exact ((((Below.refl _ w).alloc (Nat.le_refl _) _).alloc (by simp) _).alloc (by simp; omega) _).alloc (by simp; omega) _
  have E1 := r2.loads (P := Tryz.prog) 34 hcl
  have c1 := (r1.cell 0).trans (show _ = some (Value.int .i64 x) from rfl)
  have HH := Lib.hid (And.intro r3 (And.intro r4 hB))
  have c0 := (r4.cell 0).trans (show _ = some (Value.int .i64 0) from rfl)
  have f0 := r4.frozen 0
  clear r1 r2 r3 r4 hB hc s1 s2 s3 hn h1 h2
  go_enter_defers Tryz.func7, Tryz.ntmps7
  go_upto_region 1 with fail
  rw [← hw1, ← hw2, ← hw3, ← hw4]
  clear hw1 hw2 hw3 hw4
  go_wp2_with fail
  refine (C1.out _).mono ?_
  rintro e w5 ⟨rfl, rfl⟩
  go_wp2_with fail
  refine (demand_ok _ _).mono ?_
  rintro e w5 ⟨rfl, rfl⟩
  go_wp2_with fail
  refine (C2.out _).mono ?_
  rintro e w5 ⟨rfl, hB5⟩
  go_wp2_with fail
  refine (demand_bad _ _).mono ?_
  rintro e w6 ⟨rfl, rfl⟩
  have H5 := Lib.hid (And.intro (HH.out.1.below hB5 HH.out.1.lt) (And.intro (HH.out.2.1.below hB5 HH.out.2.1.lt) (HH.out.2.2.trans (hB5.mono HH.out.2.2.size))))
  have c0 := (H5.out.2.1.cell 0).trans (show _ = some (Value.int .i64 0) from rfl)
  have f0 := H5.out.2.1.frozen 0
  clear hB5 E1 c1
  go_wp2_with fail
  refine leaves_cons (f := 30) (args := #[.pointer (some ⟨w.heap.size + 1 + 1 + 1, 0, none⟩)]) (by simp) (by simp [go_sem]) ?_
  refine (open1_fail 110 0 (w.heap.size + 1 + 1 + 1) [] _ c0 f0).mono ?_
  rintro e u' w9 ⟨rfl, rfl, rfl⟩
  have h2 := (H5.out.1.apart (Apart.setCell w5 (w.heap.size + 1 + 1 + 1) 0 (.int .i64 110)) (by omega)).alloc (.cells #[.int .i64 110] 53)
  refine ⟨.tuple #[.agg zeroKey.toArray, .int .i64 110], results_row_cell (d := .array 32 5) rfl _ _ (w.heap.size + 1 + 1) _ zeroKey.toArray (0, 0) rfl h2 (by kernel_rfl) rfl (by kernel_rfl) (w.heap.size + 1 + 1 + 1) 0 (.int .i64 110) rfl (isAgg_int .i64 (by kernel_rfl)) (((H5.out.2.1.set 0 _).alloc _).cell 0), rfl, (below_setCell H5.out.2.2 (by omega) _ _).alloc (by simpa using H5.out.2.2.size) _⟩
end Go.Proofs.YtejjincnghmbbaaGreatDoor
