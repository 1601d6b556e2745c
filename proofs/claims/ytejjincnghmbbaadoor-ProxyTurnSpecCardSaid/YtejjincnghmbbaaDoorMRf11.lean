/- The reference's proxy (chartroomref11): Private, Check, Factor, Turn. -/
import Derived.Test.YtejjincnghmbbaaDoorMRf4
import Derived.Test.YtejjincnghmbbaaDoorM19
import Derived.Test.YtejjincnghmbbaaDoorM17
import Derived.Test.YtejjincnghmbbaaDoorM18
import Derived.Test.YtejjincnghmbbaaDoorM20
namespace Go.Proofs.YtejjincnghmbbaaDoor
open Go.RowKit

theorem rpriv_ok (x : Int) (h1 : 1 ≤ x) (h2 : x < 2305843009213688669) (w : World) : Calls Tryd.prog 28 #[.int .i64 x] w fun e w' => e = .returned (.bool true) ∧ w = w' := by
  go_enter Tryd.func28, Tryd.ntmps28
  go_wp2_with fail
  all_goals
    go_ret
    exact ⟨rfl, rfl⟩
theorem rpriv_bad (x : Int) (h : NoKey x) (w : World) : Calls Tryd.prog 28 #[.int .i64 x] w fun e w' => e = .returned (.bool false) ∧ w = w' := by
  rcases h with h | h
  · have h1 : ¬ 1 ≤ x := by omega
    go_enter Tryd.func28, Tryd.ntmps28
    go_wp2_with fail
    all_goals
      go_ret
      exact ⟨rfl, rfl⟩
  · have h1 : 1 ≤ x := by omega
    have h2 : ¬ x < 2305843009213688669 := by omega
    go_enter Tryd.func28, Tryd.ntmps28
    go_wp2_with fail
    all_goals
      go_ret
      exact ⟨rfl, rfl⟩

theorem rinv_any (a : Nat) (h0 : 0 < a) (ha : a < Chart.Q) (w : World) :
    Calls Tryd.prog 29 #[.int .i64 a] w fun e w' => e = two ((Chart.finv a : Nat) : Int) 0 ∧ w = w' := by
  unfold Chart.finv
  exact rinv_ok a h0 ha w

theorem rfactor_ok (x y : Nat) (hx0 : 0 < x) (hx : x < Chart.Q) (hy0 : 0 < y) (hy : y < Chart.Q) (w : World) :
    Calls Tryd.prog 11 #[.int .i64 x, .int .i64 y] w fun e w' => e = two ((Chart.factor x y : Nat) : Int) 0 ∧ w = w' := by
  have hQ := Q_eq
  have C1 := Lib.hid (rpriv_ok (x : Int) (by omega) (by omega))
  have C2 := Lib.hid (rpriv_ok (y : Int) (by omega) (by omega))
  have C3 := Lib.hid (rinv_any x hx0 hx)
  have C4 := Lib.hid (rmul_ok y (Chart.finv x) hy (Chart.finv_lt x))
  obtain ⟨i, hi⟩ : ∃ i, i = Chart.finv x := ⟨_, rfl⟩
  obtain ⟨r, hr⟩ : ∃ r, r = Chart.factor x y := ⟨_, rfl⟩
  have e1 : y * Chart.finv x % Chart.Q = r := hr.symm
  rw [e1] at C4
  rw [← hi] at C3 C4
  rw [← hr]
  clear e1 hi hr hQ hx0 hx hy0 hy
  go_enter Tryd.func11, Tryd.ntmps11
  go_wp2_with fail
  refine (C1.out _).mono ?_
  rintro e w1 ⟨rfl, rfl⟩
  go_wp2_with fail
  refine (C2.out _).mono ?_
  rintro e w1 ⟨rfl, rfl⟩
  go_wp2_with fail
  refine (C3.out _).mono ?_
  rintro e w1 ⟨rfl, rfl⟩
  go_wp2_with fail
  refine (C4.out _).mono ?_
  rintro e w1 ⟨rfl, rfl⟩
  go_wp2_with fail
  go_ret2
  exact ⟨rfl, rfl⟩

theorem rfactor_bad (x y : Int) (h : NoKey x ∨ NoKey y) (w : World) :
    Calls Tryd.prog 11 #[.int .i64 x, .int .i64 y] w fun e w' => e = two 0 50 ∧ w = w' := by
  by_cases h1 : NoKey x
  · have C1 := Lib.hid (rpriv_bad x h1)
    clear h h1
    go_enter Tryd.func11, Tryd.ntmps11
    go_wp2_with fail
    refine (C1.out _).mono ?_
    rintro e w1 ⟨rfl, rfl⟩
    go_wp2_with fail
    go_ret2
    exact ⟨rfl, rfl⟩
  · have h2 : NoKey y := h.resolve_left h1
    have h1 : 1 ≤ x ∧ x < 2305843009213688669 := by unfold NoKey at h1; omega
    have C1 := Lib.hid (rpriv_ok x h1.1 h1.2)
    have C2 := Lib.hid (rpriv_bad y h2)
    clear h h1 h2
    go_enter Tryd.func11, Tryd.ntmps11
    go_wp2_with fail
    refine (C1.out _).mono ?_
    rintro e w1 ⟨rfl, rfl⟩
    go_wp2_with fail
    refine (C2.out _).mono ?_
    rintro e w1 ⟨rfl, rfl⟩
    go_wp2_with fail
    go_ret2
    exact ⟨rfl, rfl⟩

theorem rgcheck_code (x : Int) : ∃ r : Int, (r = 0 ↔ IsGrp x) ∧ ∀ w, Calls Tryd.prog 54 #[.int .i64 x] w fun e w' => e = .returned (.int .i64 r) ∧ w = w' := by
  by_cases h : IsGrp x
  · obtain ⟨n, rfl, hn⟩ := h
    exact ⟨0, by simp only [true_iff]; exact ⟨n, rfl, hn⟩, rcheck_ok n hn⟩
  · exact ⟨40, by simp [h], rcheck_bad x h⟩

set_option maxRecDepth 20000 in
theorem rpcheck_any (a b : Int) (pad : List UInt8) (ra rb : Int) (w : World)
    (ha : ∀ w, Calls Tryd.prog 54 #[.int .i64 a] w fun e w' => e = .returned (.int .i64 ra) ∧ w = w')
    (hb : ∀ w, Calls Tryd.prog 54 #[.int .i64 b] w fun e w' => e = .returned (.int .i64 rb) ∧ w = w') :
    Calls Tryd.prog 33 #[.agg (capV a b pad).toArray] w fun e w' => e = .returned (.int .i64 (if ra = 0 ∧ rb = 0 then 0 else 110)) ∧ Below w.heap.size w w' := by
  have Ha := Lib.hid ha
  have Hb := Lib.hid hb
  clear ha hb
  obtain ⟨d, hd⟩ : ∃ d, d = capV a b pad := ⟨_, rfl⟩
  rw [← hd]
  obtain ⟨w1, hw1⟩ : ∃ x, x = w.alloc (.cells d.toArray 25) := ⟨_, rfl⟩
  have hR1 : RowIs w1 w.heap.size 25 d := by rw [hw1]; exact RowIs.new w d _
  have hB1 : Below w.heap.size w w1 := by rw [hw1]; exact (Below.refl _ w).alloc (Nat.le_refl _) _
  have c0 : w1.cell? ⟨w.heap.size, 0, none⟩ = some (.int .i64 a) := (hR1.cell 0).trans (by rw [hd]; rfl)
  have c1 : w1.cell? ⟨w.heap.size, 1, none⟩ = some (.int .i64 b) := (hR1.cell 1).trans (by rw [hd]; rfl)
  have H1 := Lib.hid hB1
  clear hR1 hB1 hd
  go_enter Tryd.func33, Tryd.ntmps33
  go_upto_region 1 with fail
  rw [← hw1]
  clear hw1
  go_wp2_with fail
  refine (Ha.out w1).mono ?_
  rintro e w2 ⟨rfl, rfl⟩
  by_cases h0 : ra = 0
  · subst h0
    go_wp2_with fail
    refine (Hb.out w1).mono ?_
    rintro e w3 ⟨rfl, rfl⟩
    by_cases h1 : rb = 0
    · subst h1
      go_wp2_with fail
      go_ret
      exact ⟨rfl, H1.out⟩
    · have b1 : (rb != 0) = true := by rw [bne_iff_ne]; exact h1
      go_wp2_with fail
      go_ret
      exact ⟨by simp, H1.out⟩
  · have b1 : (ra != 0) = true := by rw [bne_iff_ne]; exact h0
    go_wp2_with fail
    go_ret
    exact ⟨by simp, H1.out⟩
theorem rpcheck_ok (a b : Nat) (pad : List UInt8) (ha : Grp a) (hb : Grp b) (w : World) :
    Calls Tryd.prog 33 #[.agg (capV a b pad).toArray] w fun e w' => e = .returned (.int .i64 0) ∧ Below w.heap.size w w' :=
  rpcheck_any a b pad 0 0 w (rcheck_ok a ha) (rcheck_ok b hb)
theorem rpcheck_bad (a b : Int) (pad : List UInt8) (h : ¬ (IsGrp a ∧ IsGrp b)) (w : World) :
    Calls Tryd.prog 33 #[.agg (capV a b pad).toArray] w fun e w' => e = .returned (.int .i64 110) ∧ Below w.heap.size w w' := by
  obtain ⟨ra, ha, ca⟩ := rgcheck_code a
  obtain ⟨rb, hb, cb⟩ := rgcheck_code b
  have := rpcheck_any a b pad ra rb w ca cb
  rw [if_neg (by rw [ha, hb]; exact h)] at this
  exact this

theorem run_cap0' (w : World) : (capBuild #[]).run Tryd.prog w = .ok (.agg zeroCap.toArray) w := by kernel_rfl

set_option maxRecDepth 20000 in
theorem rturn_key (n a b : Int) (pad : List UInt8) (hp : pad.length = 32) (hn : NoKey n) (w : World) :
    Calls Tryd.prog 13 #[.int .i64 n, .agg (capV a b pad).toArray] w fun e w' =>
      e = .returned (.tuple #[.agg zeroCap.toArray, .int .i64 50]) ∧ Below w.heap.size w w' := by
  obtain ⟨c, hc⟩ : ∃ c, c = capV a b pad := ⟨_, rfl⟩
  have hcl : c.length = 34 := by rw [hc]; exact capV_length _ _ hp
  have C1 := Lib.hid (rpriv_bad n hn)
  rw [← hc]
  obtain ⟨w1, hw1⟩ : ∃ x, x = w.alloc (.cells c.toArray 25) := ⟨_, rfl⟩
  obtain ⟨w2, hw2⟩ : ∃ x, x = w1.alloc (.cells #[.int .i64 0, .int .i64 0, .int .u8 0, .int .u8 0, .int .u8 0, .int .u8 0, .int .u8 0, .int .u8 0, .int .u8 0, .int .u8 0, .int .u8 0, .int .u8 0, .int .u8 0, .int .u8 0, .int .u8 0, .int .u8 0, .int .u8 0, .int .u8 0, .int .u8 0, .int .u8 0, .int .u8 0, .int .u8 0, .int .u8 0, .int .u8 0, .int .u8 0, .int .u8 0, .int .u8 0, .int .u8 0, .int .u8 0, .int .u8 0, .int .u8 0, .int .u8 0, .int .u8 0, .int .u8 0] 25) := ⟨_, rfl⟩
  have s1 : w1.heap.size = w.heap.size + 1 := by rw [hw1]; simp
  have r1 : RowIs w2 w.heap.size 25 c := by
    rw [hw2]
    refine RowIs.alloc ?_ _
    rw [hw1]; exact RowIs.new w c _
  have r2 : RowIs w2 (w.heap.size + 1) 25 zeroCap := by
    rw [hw2, ← s1, zeroCap_eq]; exact RowIs.new w1 _ _
  have hB : Below w.heap.size w w2 := by
    rw [hw2, hw1]
    exact ((Below.refl _ w).alloc (Nat.le_refl _) _).alloc (by simp) _
  have E1 := r1.loads (P := Tryd.prog) 34 hcl
  have hb0 := run_cap0'
  obtain ⟨zc, hzc⟩ : ∃ zc, zc = zeroCap := ⟨_, rfl⟩
  have hzl : zc.length = 34 := by rw [hzc]; rfl
  have hz1 : ∀ v ∈ zc, v.oneCell' = true := by rw [hzc]; exact oneCell_cap _ _ _
  rw [← hzc] at r2 hb0 ⊢
  have HH := Lib.hid (And.intro r1 (And.intro r2 (And.intro hB trivial)))
  clear r1 r2 hB s1 hc E1 hn hzc
  go_enter Tryd.func13, Tryd.ntmps13
  go_upto_region 1 with fail
  rw [← hw1, ← hw2]
  clear hw1 hw2
  go_wp2_with fail
  refine (C1.out _).mono ?_
  rintro e w3 ⟨rfl, rfl⟩
  have H2 := Lib.hid (And.intro HH.out.2.1 HH.out.2.2.1)
  have E2 := H2.out.1.stores (P := Tryd.prog) zc rfl hz1
  obtain ⟨w4, hw4⟩ : ∃ x, x = w2.setRow (w.heap.size + 1) zc.toArray := ⟨_, rfl⟩
  rw [← hw4] at E2
  have h4 : RowIs w4 (w.heap.size + 1) 25 zc := by rw [hw4]; exact H2.out.1.setRow _
  have hB4 : Below w.heap.size w w4 := by rw [hw4]; exact below_setRow H2.out.2 (by omega) _
  have H4 := Lib.hid (And.intro h4 hB4)
  clear h4 hB4 hw4
  go_wp2_with fail
  refine bodyPost_ret (results_row_tmp rfl _ _ (w.heap.size + 1) _ zc.toArray (0, 0) _ rfl H4.out.1 Tryd.underlying25 rfl (by rw [List.size_toArray, hzl]; kernel_rfl) (.int .i64 50) rfl) rfl ?_
  exact ⟨rfl, H4.out.2⟩

set_option maxRecDepth 20000 in
theorem rturn_cap (n : Int) (h1 : 1 ≤ n) (h2 : n < 2305843009213688669) (a b : Int) (pad : List UInt8) (hp : pad.length = 32) (hn : ¬ (IsGrp a ∧ IsGrp b)) (w : World) :
    Calls Tryd.prog 13 #[.int .i64 n, .agg (capV a b pad).toArray] w fun e w' =>
      e = .returned (.tuple #[.agg zeroCap.toArray, .int .i64 110]) ∧ Below w.heap.size w w' := by
  obtain ⟨c, hc⟩ : ∃ c, c = capV a b pad := ⟨_, rfl⟩
  have hcl : c.length = 34 := by rw [hc]; exact capV_length _ _ hp
  have C1 := Lib.hid (rpriv_ok n h1 h2)
  have C2 := rpcheck_bad a b pad hn
  rw [← hc] at C2 ⊢
  replace C2 := Lib.hid C2
  obtain ⟨w1, hw1⟩ : ∃ x, x = w.alloc (.cells c.toArray 25) := ⟨_, rfl⟩
  obtain ⟨w2, hw2⟩ : ∃ x, x = w1.alloc (.cells #[.int .i64 0, .int .i64 0, .int .u8 0, .int .u8 0, .int .u8 0, .int .u8 0, .int .u8 0, .int .u8 0, .int .u8 0, .int .u8 0, .int .u8 0, .int .u8 0, .int .u8 0, .int .u8 0, .int .u8 0, .int .u8 0, .int .u8 0, .int .u8 0, .int .u8 0, .int .u8 0, .int .u8 0, .int .u8 0, .int .u8 0, .int .u8 0, .int .u8 0, .int .u8 0, .int .u8 0, .int .u8 0, .int .u8 0, .int .u8 0, .int .u8 0, .int .u8 0, .int .u8 0, .int .u8 0] 25) := ⟨_, rfl⟩
  have s1 : w1.heap.size = w.heap.size + 1 := by rw [hw1]; simp
  have r1 : RowIs w2 w.heap.size 25 c := by
    rw [hw2]
    refine RowIs.alloc ?_ _
    rw [hw1]; exact RowIs.new w c _
  have r2 : RowIs w2 (w.heap.size + 1) 25 zeroCap := by
    rw [hw2, ← s1, zeroCap_eq]; exact RowIs.new w1 _ _
  have hB : Below w.heap.size w w2 := by
    rw [hw2, hw1]
    exact ((Below.refl _ w).alloc (Nat.le_refl _) _).alloc (by simp) _
  have E1 := r1.loads (P := Tryd.prog) 34 hcl
  have hb0 := run_cap0'
  obtain ⟨zc, hzc⟩ : ∃ zc, zc = zeroCap := ⟨_, rfl⟩
  have hzl : zc.length = 34 := by rw [hzc]; rfl
  have hz1 : ∀ v ∈ zc, v.oneCell' = true := by rw [hzc]; exact oneCell_cap _ _ _
  rw [← hzc] at r2 hb0 ⊢
  have HH := Lib.hid (And.intro r1 (And.intro r2 (And.intro hB trivial)))
  clear r1 r2 hB s1 hc hn h1 h2 hzc
  go_enter Tryd.func13, Tryd.ntmps13
  go_upto_region 1 with fail
  rw [← hw1, ← hw2]
  clear hw1 hw2
  go_wp2_with fail
  refine (C1.out _).mono ?_
  rintro e w3 ⟨rfl, rfl⟩
  go_wp2_with fail
  refine (C2.out _).mono ?_
  rintro e w3 ⟨rfl, hB3⟩
  have H2 := Lib.hid (And.intro (HH.out.2.1.below hB3 HH.out.2.1.lt) (HH.out.2.2.1.trans (hB3.mono HH.out.2.2.1.size)))
  clear hB3 E1
  have E2 := H2.out.1.stores (P := Tryd.prog) zc rfl hz1
  obtain ⟨w4, hw4⟩ : ∃ x, x = w3.setRow (w.heap.size + 1) zc.toArray := ⟨_, rfl⟩
  rw [← hw4] at E2
  have h4 : RowIs w4 (w.heap.size + 1) 25 zc := by rw [hw4]; exact H2.out.1.setRow _
  have hB4 : Below w.heap.size w w4 := by rw [hw4]; exact below_setRow H2.out.2 (by omega) _
  have H4 := Lib.hid (And.intro h4 hB4)
  clear h4 hB4 hw4
  go_wp2_with fail
  refine bodyPost_ret (results_row_tmp rfl _ _ (w.heap.size + 1) _ zc.toArray (0, 0) _ rfl H4.out.1 Tryd.underlying25 rfl (by rw [List.size_toArray, hzl]; kernel_rfl) (.int .i64 110) rfl) rfl ?_
  exact ⟨rfl, H4.out.2⟩

set_option maxRecDepth 20000 in
theorem rturn_ok (n a b : Nat) (pad : List UInt8) (hp : pad.length = 32) (hn0 : 0 < n) (hn : n < Chart.Q) (ha : Grp a) (hb : Grp b) (w : World) :
    Calls Tryd.prog 13 #[.int .i64 n, .agg (capV a b pad).toArray] w fun e w' =>
      e = .returned (.tuple #[.agg (capV ((a ^ n % PP : Nat) : Int) b pad).toArray, .int .i64 0]) ∧ Below w.heap.size w w' := by
  have hQ := Q_eq
  have C1 := Lib.hid (rpriv_ok (n : Int) (by omega) (by omega))
  have C2 := rpcheck_ok a b pad ha hb
  have C3 := Lib.hid (rexp_ok a n ha hn)
  obtain ⟨r, hr⟩ : ∃ r, r = a ^ n % PP := ⟨_, rfl⟩
  rw [← hr] at C3 ⊢
  obtain ⟨c, hc⟩ : ∃ c, c = capV (a : Int) (b : Int) pad := ⟨_, rfl⟩
  have hcl : c.length = 34 := by rw [hc]; exact capV_length _ _ hp
  rw [← hc] at C2 ⊢
  replace C2 := Lib.hid C2
  obtain ⟨w1, hw1⟩ : ∃ x, x = w.alloc (.cells c.toArray 25) := ⟨_, rfl⟩
  obtain ⟨w2, hw2⟩ : ∃ x, x = w1.alloc (.cells #[.int .i64 0, .int .i64 0, .int .u8 0, .int .u8 0, .int .u8 0, .int .u8 0, .int .u8 0, .int .u8 0, .int .u8 0, .int .u8 0, .int .u8 0, .int .u8 0, .int .u8 0, .int .u8 0, .int .u8 0, .int .u8 0, .int .u8 0, .int .u8 0, .int .u8 0, .int .u8 0, .int .u8 0, .int .u8 0, .int .u8 0, .int .u8 0, .int .u8 0, .int .u8 0, .int .u8 0, .int .u8 0, .int .u8 0, .int .u8 0, .int .u8 0, .int .u8 0, .int .u8 0, .int .u8 0] 25) := ⟨_, rfl⟩
  have s1 : w1.heap.size = w.heap.size + 1 := by rw [hw1]; simp
  have r1 : RowIs w2 w.heap.size 25 c := by
    rw [hw2]
    refine RowIs.alloc ?_ _
    rw [hw1]; exact RowIs.new w c _
  have r2 : RowIs w2 (w.heap.size + 1) 25 zeroCap := by
    rw [hw2, ← s1, zeroCap_eq]; exact RowIs.new w1 _ _
  have hB : Below w.heap.size w w2 := by
    rw [hw2, hw1]
    exact ((Below.refl _ w).alloc (Nat.le_refl _) _).alloc (by simp) _
  have E1 := r1.loads (P := Tryd.prog) 34 hcl
  have hb0 := run_cap0'
  obtain ⟨zc, hzc⟩ : ∃ zc, zc = zeroCap := ⟨_, rfl⟩
  have hzl : zc.length = 34 := by rw [hzc]; rfl
  have hz1 : ∀ v ∈ zc, v.oneCell' = true := by rw [hzc]; exact oneCell_cap _ _ _
  rw [← hzc] at r2 hb0
  have HH := Lib.hid (And.intro r1 (And.intro r2 (And.intro hB hc)))
  clear r1 r2 hB s1 hc hr hQ hn0 hn ha hb hzc
  go_enter Tryd.func13, Tryd.ntmps13
  go_upto_region 1 with fail
  rw [← hw1, ← hw2]
  clear hw1 hw2
  go_wp2_with fail
  refine (C1.out _).mono ?_
  rintro e w3 ⟨rfl, rfl⟩
  go_wp2_with fail
  refine (C2.out _).mono ?_
  rintro e w3 ⟨rfl, hB3⟩
  have q1 := HH.out.1.below hB3 HH.out.1.lt
  have c0 := (q1.cell 0).trans (show _ = some (Value.int .i64 (a : Int)) by rw [HH.out.2.2.2]; rfl)
  have f0 := q1.frozen 0
  have q2 := HH.out.2.1.below hB3 HH.out.2.1.lt
  have qB := HH.out.2.2.1.trans (hB3.mono HH.out.2.2.1.size)
  have H3 := Lib.hid (And.intro q1 (And.intro q2 qB))
  clear q1 q2 qB hB3 E1
  go_wp2_with fail
  refine (C3.out _).mono ?_
  rintro e w4 ⟨rfl, rfl⟩
  go_upto_region 7 with fail
  obtain ⟨w5, hw5⟩ : ∃ x, x = w3.setCell ⟨w.heap.size, 0, none⟩ (.int .i64 (r : Int)) := ⟨_, rfl⟩
  rw [← hw5]
  obtain ⟨d, hd⟩ : ∃ d, d = capV (r : Int) (b : Int) pad := ⟨_, rfl⟩
  have hdl : d.length = 34 := by rw [hd]; exact capV_length _ _ hp
  have hd1 : ∀ v ∈ d, v.oneCell' = true := by rw [hd]; exact oneCell_cap _ _ _
  have q1 : RowIs w5 w.heap.size 25 d := by
    have := H3.out.1.set 0 (.int .i64 (r : Int))
    rw [HH.out.2.2.2] at this
    rw [hw5, hd]
    exact this
  have q2 : RowIs w5 (w.heap.size + 1) 25 zc := by rw [hw5]; exact H3.out.2.1.apart (Apart.setCell _ _ _ _) (by omega)
  have qB : Below w.heap.size w w5 := by rw [hw5]; exact below_setCell H3.out.2.2 (Nat.le_refl _) _ _
  have E5 := q1.loads (P := Tryd.prog) 34 hdl
  have E6 := q2.stores (P := Tryd.prog) d (by rw [hdl, hzl]) hd1
  obtain ⟨w6, hw6⟩ : ∃ x, x = w5.setRow (w.heap.size + 1) d.toArray := ⟨_, rfl⟩
  rw [← hw6] at E6
  have h6 : RowIs w6 (w.heap.size + 1) 25 d := by rw [hw6]; exact q2.setRow _
  have hB6 : Below w.heap.size w w6 := by rw [hw6]; exact below_setRow qB (by omega) _
  have H6 := Lib.hid (And.intro h6 hB6)
  have Hd := Lib.hid hd
  clear hd q1 q2 qB h6 hB6 hw5 hw6 c0 f0
  go_wp2_with fail
  refine bodyPost_ret (results_row_tmp rfl _ _ (w.heap.size + 1) _ d.toArray (0, 0) _ rfl H6.out.1 Tryd.underlying25 rfl (by rw [List.size_toArray, hdl]; kernel_rfl) (.int .i64 0) rfl) rfl ?_
  exact ⟨by rw [Hd.out], H6.out.2⟩
end Go.Proofs.YtejjincnghmbbaaDoor
