/- The reference's proxy: Lock. -/
import Derived.Test.YtejjincnghmbbaaGreatDoorMRf7
import Derived.Test.YtejjincnghmbbaaGreatDoorMRs6
import Derived.Test.YtejjincnghmbbaaGreatDoorMRf11p
import Derived.Test.YtejjincnghmbbaaGreatDoorM25
namespace Go.Proofs.YtejjincnghmbbaaGreatDoor
open Go.RowKit

theorem run_cap0z (w : World) : (capBuild #[]).run Tryz.prog w = .ok (.agg zeroCap.toArray) w := by kernel_rfl

set_option maxRecDepth 20000 in
set_option maxHeartbeats 2000000 in
theorem rlock_bad (y : Int) (k seed : List UInt8) (hk : k.length = 32) (hs : seed.length = 32) (hy : ¬ IsGrp y) (w : World) :
    Calls Tryz.prog 6 #[.int .i64 y, .agg (k.map u8v).toArray, .agg (seed.map u8v).toArray] w fun e w' =>
      e = .returned (.tuple #[.agg zeroCap.toArray, .int .i64 40]) ∧ Below w.heap.size w w' := by
  have C1 := Lib.hid (rcheck_bad y hy)
  obtain ⟨a, ha⟩ : ∃ a, a = k.map u8v := ⟨_, rfl⟩
  have hal : a.length = 32 := by rw [ha, List.length_map, hk]
  obtain ⟨b, hb⟩ : ∃ a, a = seed.map u8v := ⟨_, rfl⟩
  have hbl : b.length = 32 := by rw [hb, List.length_map, hs]
  rw [← ha, ← hb]
  obtain ⟨w1, hw1⟩ : ∃ x, x = w.alloc (.cells a.toArray 23) := ⟨_, rfl⟩
  obtain ⟨w2, hw2⟩ : ∃ x, x = w1.alloc (.cells b.toArray 23) := ⟨_, rfl⟩
  obtain ⟨w3, hw3⟩ : ∃ x, x = w2.alloc (.cells #[.int .i64 0, .int .i64 0, .int .u8 0, .int .u8 0, .int .u8 0, .int .u8 0, .int .u8 0, .int .u8 0, .int .u8 0, .int .u8 0, .int .u8 0, .int .u8 0, .int .u8 0, .int .u8 0, .int .u8 0, .int .u8 0, .int .u8 0, .int .u8 0, .int .u8 0, .int .u8 0, .int .u8 0, .int .u8 0, .int .u8 0, .int .u8 0, .int .u8 0, .int .u8 0, .int .u8 0, .int .u8 0, .int .u8 0, .int .u8 0, .int .u8 0, .int .u8 0, .int .u8 0, .int .u8 0] 25) := ⟨_, rfl⟩
  have s1 : w1.heap.size = w.heap.size + 1 := by rw [hw1]; simp
  have s2 : w2.heap.size = w.heap.size + 1 + 1 := by rw [hw2]; simp [s1]
  have r1 : RowIs w3 w.heap.size 23 a := by
    rw [hw3, hw2]
    refine RowIs.alloc (RowIs.alloc ?_ _) _
    rw [hw1]; exact RowIs.new w a _
  have r2 : RowIs w3 (w.heap.size + 1) 23 b := by
    rw [hw3]
    refine RowIs.alloc ?_ _
    rw [hw2, ← s1]; exact RowIs.new w1 b _
  have r3 : RowIs w3 (w.heap.size + 1 + 1) 25 zeroCap := by
    rw [hw3, ← s2, zeroCap_eq]; exact RowIs.new w2 _ _
  have hB : Below w.heap.size w w3 := by
    rw [hw3, hw2, hw1]
    exact (((Below.refl _ w).alloc (Nat.le_refl _) _).alloc (by simp) _).alloc (by simp; omega) _
  have hb0 := run_cap0z
  obtain ⟨zc, hzc⟩ : ∃ zc, zc = zeroCap := ⟨_, rfl⟩
  have hzl : zc.length = 34 := by rw [hzc]; rfl
  have hz1 : ∀ v ∈ zc, v.oneCell' = true := by rw [hzc]; exact oneCell_cap _ _ _
  rw [← hzc] at r3 hb0 ⊢
  have H := Lib.hid (And.intro r3 hB)
  clear r1 r2 r3 hB s1 s2 ha hb hzc hy
  go_enter Tryz.func6, Tryz.ntmps6
  go_upto_region 1 with fail
  rw [← hw1, ← hw2, ← hw3]
  clear hw1 hw2 hw3
  go_wp2_with fail
  refine (C1.out _).mono ?_
  rintro e w4 ⟨rfl, rfl⟩
  obtain ⟨w9, hw9⟩ : ∃ x, x = w3.setRow (w.heap.size + 1 + 1) zc.toArray := ⟨_, rfl⟩
  have E9 := H.out.1.stores (P := Tryz.prog) zc (by rw [hzl] <;> rfl) hz1
  rw [← hw9] at E9
  have h9 : RowIs w9 (w.heap.size + 1 + 1) 25 zc := by rw [hw9]; exact H.out.1.setRow _
  have hB9 : Below w.heap.size w w9 := by rw [hw9]; exact below_setRow H.out.2 (by omega) _
  have H9 := Lib.hid (And.intro h9 hB9)
  clear h9 hB9 hw9
  go_wp2_with fail
  refine bodyPost_ret (results_row_tmp rfl _ _ (w.heap.size + 1 + 1) _ zc.toArray (0, 0) _ rfl H9.out.1 Tryz.underlying25 rfl (by rw [List.size_toArray, hzl]; kernel_rfl) (.int .i64 40) rfl) rfl ?_
  exact ⟨rfl, H9.out.2⟩

set_option maxRecDepth 20000 in
set_option maxHeartbeats 4000000 in
theorem rlock_ok (y : Nat) (k seed : List UInt8) (hk : k.length = 32) (hs : seed.length = 32) (hy : Grp y) (w : World) :
    Calls Tryz.prog 6 #[.int .i64 y, .agg (k.map u8v).toArray, .agg (seed.map u8v).toArray] w fun e w' =>
      e = .returned (.tuple #[.agg (capV ((y ^ lockR seed % PP : Nat) : Int) ((Chart.E (lockS seed + lockR seed) : Nat) : Int) (Chart.comb k (Chart.E (lockS seed)))).toArray, .int .i64 0]) ∧ Below w.heap.size w w' := by
  have C1 := rcheck_ok y hy
  have CR : ∀ w, Calls Tryz.prog 25 #[.agg (seed.map u8v).toArray, .string lock_] w fun e w' => e = .returned (.int .i64 (lockR seed : Nat)) ∧ Below w.heap.size w w' := rscalar7_nil seed hs lock_ (by decide)
  have CS : ∀ w, Calls Tryz.prog 25 #[.agg (seed.map u8v).toArray, .string mask_] w fun e w' => e = .returned (.int .i64 (lockS seed : Nat)) ∧ Below w.heap.size w w' := rscalar7_nil seed hs mask_ (by decide)
  have CB1 := rbase4_ok (lockS seed) (dscalar_lt _ _)
  have CE := rexp_ok y (lockR seed) hy (dscalar_lt _ _)
  have CB2 := rbase4_ok (lockR seed) (dscalar_lt _ _)
  rw [show 4 ^ lockS seed % PP = Chart.E (lockS seed) from rfl] at CB1
  rw [show 4 ^ lockR seed % PP = Chart.E (lockR seed) from rfl] at CB2
  have CM := rmul4_ok (Chart.E (lockS seed)) (Chart.E (lockR seed)) (grp_E _) (grp_E _)
  rw [show Chart.E (lockS seed) * Chart.E (lockR seed) % PP = Chart.E (lockS seed + lockR seed) from Chart.E_add _ _] at CM
  have CK := rmasked_any k hk (Chart.E (lockS seed))
  have hcl := Chart.comb_length hk (Chart.E (lockS seed))
  generalize Chart.E (lockS seed + lockR seed) = B at *
  generalize Chart.comb k (Chart.E (lockS seed)) = o at *
  generalize Chart.E (lockS seed) = M at *
  generalize Chart.E (lockR seed) = G at *
  obtain ⟨A, hA⟩ : ∃ A, A = y ^ lockR seed % PP := ⟨_, rfl⟩
  rw [← hA] at CE ⊢
  clear hA
  generalize lockR seed = R at *
  generalize lockS seed = S at *
  obtain ⟨a, ha⟩ : ∃ a, a = k.map u8v := ⟨_, rfl⟩
  have hal : a.length = 32 := by rw [ha, List.length_map, hk]
  obtain ⟨b, hb⟩ : ∃ a, a = seed.map u8v := ⟨_, rfl⟩
  have hbl : b.length = 32 := by rw [hb, List.length_map, hs]
  obtain ⟨p, hp⟩ : ∃ p, p = bytesV o := ⟨_, rfl⟩
  have hpl : p.length = 32 := by rw [hp]; unfold bytesV; rw [List.length_map, hcl]
  have hv : capV (A : Int) (B : Int) o = capL A B p := by rw [hp]; rfl
  have hvo : ∀ x ∈ capL A B p, x.oneCell' = true := by rw [← hv]; exact oneCell_cap _ _ _
  rw [hv]
  rw [← ha] at CK ⊢
  rw [← hb] at CR CS ⊢
  rw [← hp] at CK
  have EB := fun w => run_build_cap A B p hpl w
  have hvl : (capL A B p).length = 34 := by simp [capL, hpl]
  obtain ⟨v, hvv⟩ : ∃ v, v = capL A B p := ⟨_, rfl⟩
  rw [← hvv] at EB hvl hvo ⊢
  obtain ⟨w1, hw1⟩ : ∃ x, x = w.alloc (.cells a.toArray 23) := ⟨_, rfl⟩
  obtain ⟨w2, hw2⟩ : ∃ x, x = w1.alloc (.cells b.toArray 23) := ⟨_, rfl⟩
  obtain ⟨w3, hw3⟩ : ∃ x, x = w2.alloc (.cells #[.int .i64 0, .int .i64 0, .int .u8 0, .int .u8 0, .int .u8 0, .int .u8 0, .int .u8 0, .int .u8 0, .int .u8 0, .int .u8 0, .int .u8 0, .int .u8 0, .int .u8 0, .int .u8 0, .int .u8 0, .int .u8 0, .int .u8 0, .int .u8 0, .int .u8 0, .int .u8 0, .int .u8 0, .int .u8 0, .int .u8 0, .int .u8 0, .int .u8 0, .int .u8 0, .int .u8 0, .int .u8 0, .int .u8 0, .int .u8 0, .int .u8 0, .int .u8 0, .int .u8 0, .int .u8 0] 25) := ⟨_, rfl⟩
  have s1 : w1.heap.size = w.heap.size + 1 := by rw [hw1]; simp
  have s2 : w2.heap.size = w.heap.size + 1 + 1 := by rw [hw2]; simp [s1]
  have r1 : RowIs w3 w.heap.size 23 a := by
    rw [hw3, hw2]
    refine RowIs.alloc (RowIs.alloc ?_ _) _
    rw [hw1]; exact RowIs.new w a _
  have r2 : RowIs w3 (w.heap.size + 1) 23 b := by
    rw [hw3]
    refine RowIs.alloc ?_ _
    rw [hw2, ← s1]; exact RowIs.new w1 b _
  have r3 : RowIs w3 (w.heap.size + 1 + 1) 25 zeroCap := by
    rw [hw3, ← s2, zeroCap_eq]; exact RowIs.new w2 _ _
  have hB : Below w.heap.size w w3 := by
    rw [hw3, hw2, hw1]
    exact (((Below.refl _ w).alloc (Nat.le_refl _) _).alloc (by simp) _).alloc (by simp; omega) _
  have H := Lib.hid (And.intro hB (And.intro r1 (And.intro r2 r3)))
  replace C1 := Lib.hid C1
  replace CR := Lib.hid CR
  replace CS := Lib.hid CS
  replace CB1 := Lib.hid CB1
  replace CE := Lib.hid CE
  replace CB2 := Lib.hid CB2
  replace CM := Lib.hid CM
  replace CK := Lib.hid CK
  have L2 := H.out.2.2.1.loads (P := Tryz.prog) 32 hbl
  clear r1 r2 r3 hB s1 s2 ha hb hy hp hvv hv hcl
  go_enter Tryz.func6, Tryz.ntmps6
  go_upto_region 1 with fail
  rw [← hw1, ← hw2, ← hw3]
  clear hw1 hw2 hw3
  go_wp2_with fail
  refine (C1.out _).mono ?_
  rintro e w4 ⟨rfl, rfl⟩
  go_wp2_with fail
  refine (CR.out _).mono ?_
  rintro e w4 ⟨rfl, hB4⟩
  have H4 := Lib.hid (And.intro (H.out.1.trans (hB4.mono H.out.1.size)) (And.intro (H.out.2.1.below hB4 H.out.2.1.lt) (And.intro (H.out.2.2.1.below hB4 H.out.2.2.1.lt) (H.out.2.2.2.below hB4 H.out.2.2.2.lt))))
  clear hB4 L2
  have L4 := H4.out.2.2.1.loads (P := Tryz.prog) 32 hbl
  go_wp2_with fail
  refine (CS.out _).mono ?_
  rintro e w5 ⟨rfl, hB5⟩
  have H5 := Lib.hid (And.intro (H4.out.1.trans (hB5.mono H4.out.1.size)) (And.intro (H4.out.2.1.below hB5 H4.out.2.1.lt) (H4.out.2.2.2.below hB5 H4.out.2.2.2.lt)))
  clear hB5 L4
  go_wp2_with fail
  refine (CB1.out _).mono ?_
  rintro e w6 ⟨rfl, rfl⟩
  go_wp2_with fail
  refine (CE.out _).mono ?_
  rintro e w6 ⟨rfl, rfl⟩
  go_wp2_with fail
  refine (CB2.out _).mono ?_
  rintro e w6 ⟨rfl, rfl⟩
  go_wp2_with fail
  refine (CM.out _).mono ?_
  rintro e w6 ⟨rfl, rfl⟩
  have L5 := H5.out.2.1.loads (P := Tryz.prog) 32 hal
  go_wp2_with fail
  refine (CK.out _).mono ?_
  rintro e w6 ⟨rfl, hB6⟩
  have H6 := Lib.hid (And.intro (H5.out.2.2.below hB6 H5.out.2.2.lt) (H5.out.1.trans (hB6.mono H5.out.1.size)))
  clear hB6 L5
  obtain ⟨w9, hw9⟩ : ∃ x, x = w6.setRow (w.heap.size + 1 + 1) v.toArray := ⟨_, rfl⟩
  have E9 := H6.out.1.stores (P := Tryz.prog) v (by rw [hvl] <;> rfl) hvo
  rw [← hw9] at E9
  have h9 : RowIs w9 (w.heap.size + 1 + 1) 25 v := by rw [hw9]; exact H6.out.1.setRow _
  have hB9 : Below w.heap.size w w9 := by rw [hw9]; exact below_setRow H6.out.2 (by omega) _
  have H9 := Lib.hid (And.intro h9 hB9)
  clear h9 hB9 hw9
  go_wp2_with fail
  refine bodyPost_ret (results_row_tmp rfl _ _ (w.heap.size + 1 + 1) _ v.toArray (0, 0) _ rfl H9.out.1 Tryz.underlying25 rfl (by rw [List.size_toArray, hvl]; kernel_rfl) (.int .i64 0) rfl) rfl ?_
  exact ⟨rfl, H9.out.2⟩
end Go.Proofs.YtejjincnghmbbaaGreatDoor
