/- The reference's proxy: Open. -/
import Derived.Test.YtejjincnghmbbaaGreatDoorMRf11l
namespace Go.Proofs.YtejjincnghmbbaaGreatDoor
open Go.RowKit

theorem run_key0z (w : World) : (keyBuild #[]).run Tryz.prog w = .ok (.agg zeroKey.toArray) w := by kernel_rfl

set_option maxRecDepth 20000 in
set_option maxHeartbeats 2000000 in
theorem ropen_key (x a b : Int) (pad : List UInt8) (hn : NoKey x) (w : World) :
    Calls Tryz.prog 8 #[.int .i64 x, .agg (capV a b pad).toArray] w fun e w' =>
      e = .returned (.tuple #[.agg zeroKey.toArray, .int .i64 50]) ∧ Below w.heap.size w w' := by
  have C1 := Lib.hid (rpriv_bad x hn)
  obtain ⟨c, hc⟩ : ∃ c, c = capV a b pad := ⟨_, rfl⟩
  rw [← hc]
  obtain ⟨w1, hw1⟩ : ∃ x, x = w.alloc (.cells c.toArray 25) := ⟨_, rfl⟩
  obtain ⟨w2, hw2⟩ : ∃ x, x = w1.alloc (.cells #[.int .u8 0, .int .u8 0, .int .u8 0, .int .u8 0, .int .u8 0, .int .u8 0, .int .u8 0, .int .u8 0, .int .u8 0, .int .u8 0, .int .u8 0, .int .u8 0, .int .u8 0, .int .u8 0, .int .u8 0, .int .u8 0, .int .u8 0, .int .u8 0, .int .u8 0, .int .u8 0, .int .u8 0, .int .u8 0, .int .u8 0, .int .u8 0, .int .u8 0, .int .u8 0, .int .u8 0, .int .u8 0, .int .u8 0, .int .u8 0, .int .u8 0, .int .u8 0] 23) := ⟨_, rfl⟩
  have s1 : w1.heap.size = w.heap.size + 1 := by rw [hw1]; simp
  have r1 : RowIs w2 w.heap.size 25 c := by
    rw [hw2]
    refine RowIs.alloc ?_ _
    rw [hw1]; exact RowIs.new w c _
  have r2 : RowIs w2 (w.heap.size + 1) 23 zeroKey := by
    rw [hw2, ← s1]; exact RowIs.new w1 zeroKey _
  have hB : Below w.heap.size w w2 := by
    rw [hw2, hw1]
    exact ((Below.refl _ w).alloc (Nat.le_refl _) _).alloc (by simp) _
  have hb0 := run_key0z
  obtain ⟨zk, hzk⟩ : ∃ zk, zk = zeroKey := ⟨_, rfl⟩
  have hzl : zk.length = 32 := by rw [hzk]; rfl
  have hz1 : ∀ v ∈ zk, v.oneCell' = true := by rw [hzk]; exact oneCell_bytes (List.replicate 32 0)
  rw [← hzk] at r2 hb0 ⊢
  have H := Lib.hid (And.intro r2 hB)
  clear r1 r2 hB s1 hc hzk hn
  go_enter Tryz.func8, Tryz.ntmps8
  go_upto_region 1 with fail
  rw [← hw1, ← hw2]
  clear hw1 hw2
  go_wp2_with fail
  refine (C1.out _).mono ?_
  rintro e w3 ⟨rfl, rfl⟩
  obtain ⟨w9, hw9⟩ : ∃ x, x = w2.setRow (w.heap.size + 1) zk.toArray := ⟨_, rfl⟩
  have E9 := H.out.1.stores (P := Tryz.prog) zk (by rw [hzl] <;> rfl) hz1
  rw [← hw9] at E9
  have h9 : RowIs w9 (w.heap.size + 1) 23 zk := by rw [hw9]; exact H.out.1.setRow _
  have hB9 : Below w.heap.size w w9 := by rw [hw9]; exact below_setRow H.out.2 (by omega) _
  have H9 := Lib.hid (And.intro h9 hB9)
  clear h9 hB9 hw9
  go_wp2_with fail
  refine bodyPost_ret (results_row_tmp rfl _ _ (w.heap.size + 1) _ zk.toArray (0, 0) _ rfl H9.out.1 Tryz.underlying23 rfl (by rw [List.size_toArray, hzl]; kernel_rfl) (.int .i64 50) rfl) rfl ?_
  exact ⟨rfl, H9.out.2⟩

set_option maxRecDepth 20000 in
set_option maxHeartbeats 2000000 in
theorem ropen_cap (x : Int) (h1 : 1 ≤ x) (h2 : x < 2305843009213688669) (a b : Int) (pad : List UInt8) (hp : pad.length = 32) (hn : ¬ (IsGrp a ∧ IsGrp b)) (w : World) :
    Calls Tryz.prog 8 #[.int .i64 x, .agg (capV a b pad).toArray] w fun e w' =>
      e = .returned (.tuple #[.agg zeroKey.toArray, .int .i64 110]) ∧ Below w.heap.size w w' := by
  have C1 := Lib.hid (rpriv_ok x h1 h2)
  have C2 := rpcheck_bad a b pad hn
  obtain ⟨c, hc⟩ : ∃ c, c = capV a b pad := ⟨_, rfl⟩
  have hcl : c.length = 34 := by rw [hc]; exact capV_length _ _ hp
  rw [← hc] at C2 ⊢
  replace C2 := Lib.hid C2
  obtain ⟨w1, hw1⟩ : ∃ x, x = w.alloc (.cells c.toArray 25) := ⟨_, rfl⟩
  obtain ⟨w2, hw2⟩ : ∃ x, x = w1.alloc (.cells #[.int .u8 0, .int .u8 0, .int .u8 0, .int .u8 0, .int .u8 0, .int .u8 0, .int .u8 0, .int .u8 0, .int .u8 0, .int .u8 0, .int .u8 0, .int .u8 0, .int .u8 0, .int .u8 0, .int .u8 0, .int .u8 0, .int .u8 0, .int .u8 0, .int .u8 0, .int .u8 0, .int .u8 0, .int .u8 0, .int .u8 0, .int .u8 0, .int .u8 0, .int .u8 0, .int .u8 0, .int .u8 0, .int .u8 0, .int .u8 0, .int .u8 0, .int .u8 0] 23) := ⟨_, rfl⟩
  have s1 : w1.heap.size = w.heap.size + 1 := by rw [hw1]; simp
  have r1 : RowIs w2 w.heap.size 25 c := by
    rw [hw2]
    refine RowIs.alloc ?_ _
    rw [hw1]; exact RowIs.new w c _
  have r2 : RowIs w2 (w.heap.size + 1) 23 zeroKey := by
    rw [hw2, ← s1]; exact RowIs.new w1 zeroKey _
  have hB : Below w.heap.size w w2 := by
    rw [hw2, hw1]
    exact ((Below.refl _ w).alloc (Nat.le_refl _) _).alloc (by simp) _
  have hb0 := run_key0z
  obtain ⟨zk, hzk⟩ : ∃ zk, zk = zeroKey := ⟨_, rfl⟩
  have hzl : zk.length = 32 := by rw [hzk]; rfl
  have hz1 : ∀ v ∈ zk, v.oneCell' = true := by rw [hzk]; exact oneCell_bytes (List.replicate 32 0)
  rw [← hzk] at r2 hb0 ⊢
  have L1 := r1.loads (P := Tryz.prog) 34 hcl
  have H := Lib.hid (And.intro r2 hB)
  clear r1 r2 hB s1 hc hzk hn h1 h2
  go_enter Tryz.func8, Tryz.ntmps8
  go_upto_region 1 with fail
  rw [← hw1, ← hw2]
  clear hw1 hw2
  go_wp2_with fail
  refine (C1.out _).mono ?_
  rintro e w3 ⟨rfl, rfl⟩
  go_wp2_with fail
  refine (C2.out _).mono ?_
  rintro e w3 ⟨rfl, hB3⟩
  have H3 := Lib.hid (And.intro (H.out.1.below hB3 H.out.1.lt) (H.out.2.trans (hB3.mono H.out.2.size)))
  clear hB3 L1
  obtain ⟨w9, hw9⟩ : ∃ x, x = w3.setRow (w.heap.size + 1) zk.toArray := ⟨_, rfl⟩
  have E9 := H3.out.1.stores (P := Tryz.prog) zk (by rw [hzl] <;> rfl) hz1
  rw [← hw9] at E9
  have h9 : RowIs w9 (w.heap.size + 1) 23 zk := by rw [hw9]; exact H3.out.1.setRow _
  have hB9 : Below w.heap.size w w9 := by rw [hw9]; exact below_setRow H3.out.2 (by omega) _
  have H9 := Lib.hid (And.intro h9 hB9)
  clear h9 hB9 hw9
  go_wp2_with fail
  refine bodyPost_ret (results_row_tmp rfl _ _ (w.heap.size + 1) _ zk.toArray (0, 0) _ rfl H9.out.1 Tryz.underlying23 rfl (by rw [List.size_toArray, hzl]; kernel_rfl) (.int .i64 110) rfl) rfl ?_
  exact ⟨rfl, H9.out.2⟩

set_option maxRecDepth 20000 in
set_option maxHeartbeats 4000000 in
theorem ropen_ok (x a b : Nat) (pad : List UInt8) (hp : pad.length = 32) (hx0 : 0 < x) (hx : x < Chart.Q) (ha : Grp a) (hb : Grp b) (w : World) :
    Calls Tryz.prog 8 #[.int .i64 x, .agg (capV a b pad).toArray] w fun e w' =>
      e = .returned (.tuple #[.agg (bytesV (Chart.comb pad (Chart.found x a b))).toArray, .int .i64 0]) ∧ Below w.heap.size w w' := by
  have hQ := Q_eq
  have C1 := Lib.hid (rpriv_ok (x : Int) (by omega) (by omega))
  have C2 := rpcheck_ok a b pad ha hb
  have CI := rinv_any x hx0 hx
  have CE := rexp_ok a (Chart.finv x) ha (Chart.finv_lt x)
  have CV := rinv4_ok (a ^ Chart.finv x % PP) (ha.pow _)
  have CM := rmul4_ok b ((a ^ Chart.finv x % PP) ^ (Chart.Q - 1) % PP) hb ((ha.pow _).pow _)
  rw [show b * ((a ^ Chart.finv x % PP) ^ (Chart.Q - 1) % PP) % PP = Chart.found x a b from rfl] at CM
  have CK := rmasked_any pad hp (Chart.found x a b)
  have hol := Chart.comb_length hp (Chart.found x a b)
  generalize Chart.comb pad (Chart.found x a b) = o at *
  generalize Chart.found x a b = f at *
  obtain ⟨z3, hz3⟩ : ∃ z, z = (a ^ Chart.finv x % PP) ^ (Chart.Q - 1) % PP := ⟨_, rfl⟩
  rw [← hz3] at CV CM
  obtain ⟨z2, hz2⟩ : ∃ z, z = a ^ Chart.finv x % PP := ⟨_, rfl⟩
  rw [← hz2] at CE CV
  obtain ⟨z1, hz1'⟩ : ∃ z, z = Chart.finv x := ⟨_, rfl⟩
  rw [← hz1'] at CE CI
  obtain ⟨c, hc⟩ : ∃ c, c = capV (a : Int) (b : Int) pad := ⟨_, rfl⟩
  have hcl : c.length = 34 := by rw [hc]; exact capV_length _ _ hp
  have c0 : c[0]? = some (.int .i64 a) := by rw [hc]; rfl
  have c1 : c[1]? = some (.int .i64 b) := by rw [hc]; rfl
  have hcp : c.drop 2 = pad.map u8v := by rw [hc]; rfl
  rw [← hc] at C2 ⊢
  obtain ⟨p, hpp⟩ : ∃ p, p = pad.map u8v := ⟨_, rfl⟩
  have hpl : p.length = 32 := by rw [hpp, List.length_map, hp]
  rw [← hpp] at CK hcp
  obtain ⟨v, hv⟩ : ∃ v, v = bytesV o := ⟨_, rfl⟩
  have hvl : v.length = 32 := by rw [hv]; unfold bytesV; rw [List.length_map, hol]
  have hv1 : ∀ x ∈ v, x.oneCell' = true := by rw [hv]; exact oneCell_bytes _
  rw [← hv] at CK ⊢
  obtain ⟨w1, hw1⟩ : ∃ x, x = w.alloc (.cells c.toArray 25) := ⟨_, rfl⟩
  obtain ⟨w2, hw2⟩ : ∃ x, x = w1.alloc (.cells #[.int .u8 0, .int .u8 0, .int .u8 0, .int .u8 0, .int .u8 0, .int .u8 0, .int .u8 0, .int .u8 0, .int .u8 0, .int .u8 0, .int .u8 0, .int .u8 0, .int .u8 0, .int .u8 0, .int .u8 0, .int .u8 0, .int .u8 0, .int .u8 0, .int .u8 0, .int .u8 0, .int .u8 0, .int .u8 0, .int .u8 0, .int .u8 0, .int .u8 0, .int .u8 0, .int .u8 0, .int .u8 0, .int .u8 0, .int .u8 0, .int .u8 0, .int .u8 0] 23) := ⟨_, rfl⟩
  have s1 : w1.heap.size = w.heap.size + 1 := by rw [hw1]; simp
  have r1 : RowIs w2 w.heap.size 25 c := by
    rw [hw2]
    refine RowIs.alloc ?_ _
    rw [hw1]; exact RowIs.new w c _
  have r2 : RowIs w2 (w.heap.size + 1) 23 zeroKey := by
    rw [hw2, ← s1]; exact RowIs.new w1 zeroKey _
  have hB : Below w.heap.size w w2 := by
    rw [hw2, hw1]
    exact ((Below.refl _ w).alloc (Nat.le_refl _) _).alloc (by simp) _
  have L1 := r1.loads (P := Tryz.prog) 34 hcl
  have H := Lib.hid (And.intro r1 (And.intro r2 hB))
  replace C2 := Lib.hid C2
  replace CI := Lib.hid CI
  replace CE := Lib.hid CE
  replace CV := Lib.hid CV
  replace CM := Lib.hid CM
  replace CK := Lib.hid CK
  clear r1 r2 hB s1 hc hx0 hx ha hb hz1' hz2 hz3 hpp hv hol hQ
  go_enter Tryz.func8, Tryz.ntmps8
  go_upto_region 1 with fail
  rw [← hw1, ← hw2]
  clear hw1 hw2
  go_wp2_with fail
  refine (C1.out _).mono ?_
  rintro e w3 ⟨rfl, rfl⟩
  go_wp2_with fail
  refine (C2.out _).mono ?_
  rintro e w3 ⟨rfl, hB3⟩
  have H3 := Lib.hid (And.intro (H.out.1.below hB3 H.out.1.lt) (And.intro (H.out.2.1.below hB3 H.out.2.1.lt) (H.out.2.2.trans (hB3.mono H.out.2.2.size))))
  clear hB3 L1
  go_wp2_with fail
  refine (CI.out _).mono ?_
  rintro e w4 ⟨rfl, rfl⟩
  have k0 := (H3.out.1.cell 0).trans c0
  have k1 := (H3.out.1.cell 1).trans c1
  go_wp2_with fail
  refine (CE.out _).mono ?_
  rintro e w4 ⟨rfl, rfl⟩
  go_wp2_with fail
  refine (CV.out _).mono ?_
  rintro e w4 ⟨rfl, rfl⟩
  go_wp2_with fail
  refine (CM.out _).mono ?_
  rintro e w4 ⟨rfl, rfl⟩
  have LP := cells_read (P := Tryz.prog) (w := w3) (g := w.heap.size) (off := 2) (vs := p) (fun j u hu => (H3.out.1.cell (2 + j)).trans (by rw [← hcp, List.getElem?_drop] at hu; exact hu)) 32 hpl
  go_wp2_with fail
  refine (CK.out _).mono ?_
  rintro e w4 ⟨rfl, hB4⟩
  have H4 := Lib.hid (And.intro (H3.out.2.1.below hB4 H3.out.2.1.lt) (H3.out.2.2.trans (hB4.mono H3.out.2.2.size)))
  clear hB4 LP k0 k1
  obtain ⟨w9, hw9⟩ : ∃ x, x = w4.setRow (w.heap.size + 1) v.toArray := ⟨_, rfl⟩
  have E9 := H4.out.1.stores (P := Tryz.prog) v (by rw [hvl] <;> rfl) hv1
  rw [← hw9] at E9
  have h9 : RowIs w9 (w.heap.size + 1) 23 v := by rw [hw9]; exact H4.out.1.setRow _
  have hB9 : Below w.heap.size w w9 := by rw [hw9]; exact below_setRow H4.out.2 (by omega) _
  have H9 := Lib.hid (And.intro h9 hB9)
  clear h9 hB9 hw9
  go_wp2_with fail
  refine bodyPost_ret (results_row_tmp rfl _ _ (w.heap.size + 1) _ v.toArray (0, 0) _ rfl H9.out.1 Tryz.underlying23 rfl (by rw [List.size_toArray, hvl]; kernel_rfl) (.int .i64 0) rfl) rfl ?_
  exact ⟨rfl, H9.out.2⟩
end Go.Proofs.YtejjincnghmbbaaGreatDoor
