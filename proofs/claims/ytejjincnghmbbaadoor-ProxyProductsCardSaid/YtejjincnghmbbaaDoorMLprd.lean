/- chartroomlaw11.ProxyProducts, walked. -/
import Derived.Test.YtejjincnghmbbaaDoorM24
namespace Go.Proofs.YtejjincnghmbbaaDoor
open Go.RowKit

set_option maxRecDepth 20000 in
set_option maxHeartbeats 4000000 in
theorem products_bad (A B : Int) (pad : List UInt8) (hp : pad.length = 32) (m n : Int) (hn : ¬ (IsGrp A ∧ IsGrp B)) (w : World) (hl : Laid w) :
    Calls Tryd.prog 7 #[.agg (capV A B pad).toArray, .int .i64 m, .int .i64 n] w fun e w' => e = .returned (.bool true) ∧ Below w.heap.size w w' := by
  have K1 := refKey_any m
  have K2 := refKey_any n
  have hx0 := keyZ_pos m; have hy0 := keyZ_pos n
  have hx := keyZ_lt m; have hy := keyZ_lt n
  generalize keyZ m = x at *
  generalize keyZ n = y at *
  have CM := fmul_any x y hx hy
  have CI := finv_any x hx0 hx
  have CT := turn_cap x (by omega) (by rw [Q_eq] at hx; omega) A B pad hp hn
  have CC := pcheck_bad A B pad hn
  obtain ⟨c, hc⟩ : ∃ a, a = capV A B pad := ⟨_, rfl⟩
  have hcl : c.length = 34 := by rw [hc]; exact capV_length _ _ hp
  have hc1 : ∀ x ∈ c, x.oneCell' = true := by rw [hc]; exact oneCell_cap _ _ _
  obtain ⟨z, hz⟩ : ∃ a, a = zeroCap := ⟨_, rfl⟩
  have hzl : z.length = 34 := by rw [hz]; rfl
  have hz1 : ∀ x ∈ z, x.oneCell' = true := by rw [hz]; exact oneCell_cap _ _ _
  rw [← hc] at CT CC ⊢
  rw [← hz] at CT
  generalize x * y % Chart.Q = p at *
  generalize Chart.finv x = q at *
  replace K1 := Lib.hid K1; replace K2 := Lib.hid K2; replace CM := Lib.hid CM; replace CI := Lib.hid CI; replace CT := Lib.hid CT; replace CC := Lib.hid CC
  clear hc hz hx0 hx hy0 hy hn
  obtain ⟨b1, hb1⟩ : ∃ x, x = w.alloc (.cells c.toArray 25) := ⟨_, rfl⟩
  have r1 : RowIs b1 (w.heap.size) 25 c := by
    rw [hb1]; exact RowIs.new w c _
  have hB0 : Below w.heap.size w b1 := by rw [hb1]; exact (Below.refl _ w).alloc (by first | exact Nat.le_refl _ | (simp; omega) | simp) _
  have F0 := Lib.hid (And.intro hB0 (And.intro (hl.below hB0 hl.numLt hl.startLt) r1))
  clear hB0 hl r1 
  go_enter Tryd.func7, Tryd.ntmps7
  go_upto_region 1 with fail
  rw [← hb1]
  clear hb1
  go_wp2_with fail
  refine (sane_ok b1 F0.out.2.1).mono ?_
  rintro e v1 ⟨rfl, hB1⟩
  have F2 := Lib.hid (And.intro (F0.out.1.trans (hB1.mono F0.out.1.size)) (And.intro (F0.out.2.1.below hB1 (Nat.lt_of_lt_of_le F0.out.2.1.numLt (Nat.le_refl _)) (Nat.lt_of_lt_of_le F0.out.2.1.startLt (Nat.le_refl _))) (F0.out.2.2.below hB1 F0.out.2.2.lt)))
  clear hB1
  go_wp2_with fail
  refine (K1.out v1).mono ?_
  rintro e v3 ⟨rfl, rfl⟩
  go_wp2_with fail
  refine (K2.out v1).mono ?_
  rintro e v4 ⟨rfl, rfl⟩
  go_wp2_with fail
  refine (CM.out v1).mono ?_
  rintro e v5 ⟨rfl, hB5⟩
  have F6 := Lib.hid (And.intro (F2.out.1.trans (hB5.mono F2.out.1.size)) (And.intro (F2.out.2.1.below hB5 (Nat.lt_of_lt_of_le F2.out.2.1.numLt (Nat.le_refl _)) (Nat.lt_of_lt_of_le F2.out.2.1.startLt (Nat.le_refl _))) (F2.out.2.2.below hB5 F2.out.2.2.lt)))
  clear hB5
  go_wp2_with fail
  refine (CI.out v5).mono ?_
  rintro e v7 ⟨rfl, hB7⟩
  have F8 := Lib.hid (And.intro (F6.out.1.trans (hB7.mono F6.out.1.size)) (And.intro (F6.out.2.1.below hB7 (Nat.lt_of_lt_of_le F6.out.2.1.numLt (Nat.le_refl _)) (Nat.lt_of_lt_of_le F6.out.2.1.startLt (Nat.le_refl _))) (F6.out.2.2.below hB7 F6.out.2.2.lt)))
  clear hB7
  have L9 := F8.out.2.2.loads (P := Tryd.prog) 34 hcl
  go_wp2_with fail
  refine (CT.out v7).mono ?_
  rintro e v10 ⟨rfl, hB10⟩
  have F11 := Lib.hid (And.intro (F8.out.1.trans (hB10.mono F8.out.1.size)) (And.intro (F8.out.2.1.below hB10 (Nat.lt_of_lt_of_le F8.out.2.1.numLt (Nat.le_refl _)) (Nat.lt_of_lt_of_le F8.out.2.1.startLt (Nat.le_refl _))) (F8.out.2.2.below hB10 F8.out.2.2.lt)))
  clear hB10
  obtain ⟨v12, S12, hR12, hB12⟩ := fresh_store (P := Tryd.prog) v10 25 #[.int .i64 0, .int .i64 0, .int .u8 0, .int .u8 0, .int .u8 0, .int .u8 0, .int .u8 0, .int .u8 0, .int .u8 0, .int .u8 0, .int .u8 0, .int .u8 0, .int .u8 0, .int .u8 0, .int .u8 0, .int .u8 0, .int .u8 0, .int .u8 0, .int .u8 0, .int .u8 0, .int .u8 0, .int .u8 0, .int .u8 0, .int .u8 0, .int .u8 0, .int .u8 0, .int .u8 0, .int .u8 0, .int .u8 0, .int .u8 0, .int .u8 0, .int .u8 0, .int .u8 0, .int .u8 0] z (by rw [hzl]; rfl) hz1
  have F13 := Lib.hid (And.intro (F11.out.1.trans (hB12.mono F11.out.1.size)) (And.intro (F11.out.2.1.below hB12 (Nat.lt_of_lt_of_le F11.out.2.1.numLt (Nat.le_refl _)) (Nat.lt_of_lt_of_le F11.out.2.1.startLt (Nat.le_refl _))) (And.intro (F11.out.2.2.below hB12 F11.out.2.2.lt) hR12)))
  clear hR12 hB12
  clear L9
  have L14 := F13.out.2.2.1.loads (P := Tryd.prog) 34 hcl
  go_wp2_with fail
  clear S12
  refine (CC.out v12).mono ?_
  rintro e v15 ⟨rfl, hB15⟩
  have F16 := Lib.hid (And.intro (F13.out.1.trans (hB15.mono F13.out.1.size)) (And.intro (F13.out.2.1.below hB15 (Nat.lt_of_lt_of_le F13.out.2.1.numLt (Nat.le_refl _)) (Nat.lt_of_lt_of_le F13.out.2.1.startLt (Nat.le_refl _))) (And.intro (F13.out.2.2.1.below hB15 F13.out.2.2.1.lt) (F13.out.2.2.2.below hB15 F13.out.2.2.2.lt))))
  clear hB15
  clear L14
  go_wp2_with fail
  go_ret
  exact ⟨rfl, F16.out.1⟩

theorem capEq (a b : Int) (p : List UInt8) (hp : p.length = 32) (w : World) : (eqlCap (capV a b p).toArray (capV a b p).toArray).run Tryd.prog w = .ok (.bool true) w := by
  have := run_eqlCap a b a b p p hp hp w
  simp only [beq_self_eq_true, Bool.and_true] at this
  exact this

set_option maxRecDepth 20000 in
set_option maxHeartbeats 8000000 in
theorem products_good (A B : Nat) (pad : List UInt8) (hp : pad.length = 32) (m n : Int) (hA : Grp A) (hB : Grp B) (w : World) (hl : Laid w) :
    Calls Tryd.prog 7 #[.agg (capV A B pad).toArray, .int .i64 m, .int .i64 n] w fun e w' => e = .returned (.bool true) ∧ Below w.heap.size w w' := by
  have K1 := refKey_any m
  have K2 := refKey_any n
  have hx0 := keyZ_pos m; have hy0 := keyZ_pos n
  have hx := keyZ_lt m; have hy := keyZ_lt n
  generalize keyZ m = x at *
  generalize keyZ n = y at *
  have CM := fmul_any x y hx hy
  have CI := finv_any x hx0 hx
  have hz0 : 0 < x * y % Chart.Q := Chart.not_dvd_mul hx0 hx hy0 hy
  have hz : x * y % Chart.Q < Chart.Q := Nat.mod_lt _ (by decide)
  have T1 := turn_ok x A B pad hp hx0 hx hA hB
  have T2 := turn_ok y (A ^ x % PP) B pad hp hy0 hy (hA.pow x) hB
  have T3 := turn_ok y A B pad hp hy0 hy hA hB
  have T4 := turn_ok x (A ^ y % PP) B pad hp hx0 hx (hA.pow y) hB
  have T5 := turn_ok (x * y % Chart.Q) A B pad hp hz0 hz hA hB
  have T6 := turn_ok (Chart.finv x) (A ^ x % PP) B pad hp (Chart.finv_pos hx0 hx) (Chart.finv_lt x) (hA.pow x) hB
  rw [show (A ^ x % PP) ^ y % PP = A ^ (x * y % Chart.Q) % PP from Chart.turn_prod hA.2.2 x y] at T2
  rw [show (A ^ y % PP) ^ x % PP = A ^ (x * y % Chart.Q) % PP from by rw [Nat.mul_comm x y]; exact Chart.turn_prod hA.2.2 y x] at T4
  rw [show (A ^ x % PP) ^ Chart.finv x % PP = A from Chart.turn_back hA.2.2 hA.2.1 hx0 hx] at T6
  have EA := capEq ((A ^ (x * y % Chart.Q) % PP : Nat) : Int) B pad hp
  have EB := capEq A B pad hp
  obtain ⟨c, hc⟩ : ∃ a, a = capV (A : Int) (B : Int) pad := ⟨_, rfl⟩
  have hcl : c.length = 34 := by rw [hc]; exact capV_length _ _ hp
  have hc1 : ∀ x ∈ c, x.oneCell' = true := by rw [hc]; exact oneCell_cap _ _ _
  obtain ⟨a, ha⟩ : ∃ a, a = capV ((A ^ x % PP : Nat) : Int) (B : Int) pad := ⟨_, rfl⟩
  have hal : a.length = 34 := by rw [ha]; exact capV_length _ _ hp
  have ha1 : ∀ x ∈ a, x.oneCell' = true := by rw [ha]; exact oneCell_cap _ _ _
  obtain ⟨b, hb⟩ : ∃ a, a = capV ((A ^ (x * y % Chart.Q) % PP : Nat) : Int) (B : Int) pad := ⟨_, rfl⟩
  have hbl : b.length = 34 := by rw [hb]; exact capV_length _ _ hp
  have hb1 : ∀ x ∈ b, x.oneCell' = true := by rw [hb]; exact oneCell_cap _ _ _
  obtain ⟨d, hd⟩ : ∃ a, a = capV ((A ^ y % PP : Nat) : Int) (B : Int) pad := ⟨_, rfl⟩
  have hdl : d.length = 34 := by rw [hd]; exact capV_length _ _ hp
  have hd1 : ∀ x ∈ d, x.oneCell' = true := by rw [hd]; exact oneCell_cap _ _ _
  rw [← hc] at T1 T3 T5 T6 EB ⊢
  rw [← ha] at T1 T2 T6
  rw [← hb] at T2 T4 T5 EA
  rw [← hd] at T3 T4
  clear hc ha hb hd hA hB hz0 hz
  generalize x * y % Chart.Q = p at *
  generalize Chart.finv x = q at *
  replace K1 := Lib.hid K1; replace K2 := Lib.hid K2; replace CM := Lib.hid CM; replace CI := Lib.hid CI
  replace T1 := Lib.hid T1; replace T2 := Lib.hid T2; replace T3 := Lib.hid T3; replace T4 := Lib.hid T4; replace T5 := Lib.hid T5; replace T6 := Lib.hid T6
  clear hx0 hx hy0 hy
  obtain ⟨b1, hb1⟩ : ∃ x, x = w.alloc (.cells c.toArray 25) := ⟨_, rfl⟩
  have r1 : RowIs b1 (w.heap.size) 25 c := by
    rw [hb1]; exact RowIs.new w c _
  have hB0 : Below w.heap.size w b1 := by rw [hb1]; exact (Below.refl _ w).alloc (by first | exact Nat.le_refl _ | (simp; omega) | simp) _
  have F0 := Lib.hid (And.intro hB0 (And.intro (hl.below hB0 hl.numLt hl.startLt) r1))
  clear hB0 hl r1 
  go_enter Tryd.func7, Tryd.ntmps7
  go_upto_region 1 with fail
  rw [← hb1]
  clear hb1
  go_wp2_with fail
  refine (sane_ok b1 F0.out.2.1).mono ?_
  rintro e v1 ⟨rfl, hB1⟩
  have F2 := Lib.hid (And.intro (F0.out.1.trans (hB1.mono F0.out.1.size)) (And.intro (F0.out.2.1.below hB1 (Nat.lt_of_lt_of_le F0.out.2.1.numLt (Nat.le_refl _)) (Nat.lt_of_lt_of_le F0.out.2.1.startLt (Nat.le_refl _))) (F0.out.2.2.below hB1 F0.out.2.2.lt)))
  clear hB1
  go_wp2_with fail
  refine (K1.out v1).mono ?_
  rintro e v3 ⟨rfl, rfl⟩
  go_wp2_with fail
  refine (K2.out v1).mono ?_
  rintro e v4 ⟨rfl, rfl⟩
  go_wp2_with fail
  refine (CM.out v1).mono ?_
  rintro e v5 ⟨rfl, hB5⟩
  have F6 := Lib.hid (And.intro (F2.out.1.trans (hB5.mono F2.out.1.size)) (And.intro (F2.out.2.1.below hB5 (Nat.lt_of_lt_of_le F2.out.2.1.numLt (Nat.le_refl _)) (Nat.lt_of_lt_of_le F2.out.2.1.startLt (Nat.le_refl _))) (F2.out.2.2.below hB5 F2.out.2.2.lt)))
  clear hB5
  go_wp2_with fail
  refine (CI.out v5).mono ?_
  rintro e v7 ⟨rfl, hB7⟩
  have F8 := Lib.hid (And.intro (F6.out.1.trans (hB7.mono F6.out.1.size)) (And.intro (F6.out.2.1.below hB7 (Nat.lt_of_lt_of_le F6.out.2.1.numLt (Nat.le_refl _)) (Nat.lt_of_lt_of_le F6.out.2.1.startLt (Nat.le_refl _))) (F6.out.2.2.below hB7 F6.out.2.2.lt)))
  clear hB7
  have L9 := F8.out.2.2.loads (P := Tryd.prog) 34 hcl
  go_wp2_with fail
  refine (T1.out v7).mono ?_
  rintro e v10 ⟨rfl, hB10⟩
  have F11 := Lib.hid (And.intro (F8.out.1.trans (hB10.mono F8.out.1.size)) (And.intro (F8.out.2.1.below hB10 (Nat.lt_of_lt_of_le F8.out.2.1.numLt (Nat.le_refl _)) (Nat.lt_of_lt_of_le F8.out.2.1.startLt (Nat.le_refl _))) (F8.out.2.2.below hB10 F8.out.2.2.lt)))
  clear hB10
  obtain ⟨v12, S12, hR12, hB12⟩ := fresh_store (P := Tryd.prog) v10 25 #[.int .i64 0, .int .i64 0, .int .u8 0, .int .u8 0, .int .u8 0, .int .u8 0, .int .u8 0, .int .u8 0, .int .u8 0, .int .u8 0, .int .u8 0, .int .u8 0, .int .u8 0, .int .u8 0, .int .u8 0, .int .u8 0, .int .u8 0, .int .u8 0, .int .u8 0, .int .u8 0, .int .u8 0, .int .u8 0, .int .u8 0, .int .u8 0, .int .u8 0, .int .u8 0, .int .u8 0, .int .u8 0, .int .u8 0, .int .u8 0, .int .u8 0, .int .u8 0, .int .u8 0, .int .u8 0] a (by rw [hal]; rfl) ha1
  have F13 := Lib.hid (And.intro (F11.out.1.trans (hB12.mono F11.out.1.size)) (And.intro (F11.out.2.1.below hB12 (Nat.lt_of_lt_of_le F11.out.2.1.numLt (Nat.le_refl _)) (Nat.lt_of_lt_of_le F11.out.2.1.startLt (Nat.le_refl _))) (And.intro (F11.out.2.2.below hB12 F11.out.2.2.lt) hR12)))
  clear hR12 hB12
  clear L9
  have L14 := F13.out.2.2.2.loads (P := Tryd.prog) 34 hal
  go_wp2_with fail
  clear S12
  refine (T2.out v12).mono ?_
  rintro e v15 ⟨rfl, hB15⟩
  have F16 := Lib.hid (And.intro (F13.out.1.trans (hB15.mono F13.out.1.size)) (And.intro (F13.out.2.1.below hB15 (Nat.lt_of_lt_of_le F13.out.2.1.numLt (Nat.le_refl _)) (Nat.lt_of_lt_of_le F13.out.2.1.startLt (Nat.le_refl _))) (And.intro (F13.out.2.2.1.below hB15 F13.out.2.2.1.lt) (F13.out.2.2.2.below hB15 F13.out.2.2.2.lt))))
  clear hB15
  obtain ⟨v17, S17, hR17, hB17⟩ := fresh_store (P := Tryd.prog) v15 25 #[.int .i64 0, .int .i64 0, .int .u8 0, .int .u8 0, .int .u8 0, .int .u8 0, .int .u8 0, .int .u8 0, .int .u8 0, .int .u8 0, .int .u8 0, .int .u8 0, .int .u8 0, .int .u8 0, .int .u8 0, .int .u8 0, .int .u8 0, .int .u8 0, .int .u8 0, .int .u8 0, .int .u8 0, .int .u8 0, .int .u8 0, .int .u8 0, .int .u8 0, .int .u8 0, .int .u8 0, .int .u8 0, .int .u8 0, .int .u8 0, .int .u8 0, .int .u8 0, .int .u8 0, .int .u8 0] b (by rw [hbl]; rfl) hb1
  have F18 := Lib.hid (And.intro (F16.out.1.trans (hB17.mono F16.out.1.size)) (And.intro (F16.out.2.1.below hB17 (Nat.lt_of_lt_of_le F16.out.2.1.numLt (Nat.le_refl _)) (Nat.lt_of_lt_of_le F16.out.2.1.startLt (Nat.le_refl _))) (And.intro (F16.out.2.2.1.below hB17 F16.out.2.2.1.lt) (And.intro (F16.out.2.2.2.below hB17 F16.out.2.2.2.lt) hR17))))
  clear hR17 hB17
  clear L14
  have L19 := F18.out.2.2.1.loads (P := Tryd.prog) 34 hcl
  go_wp2_with fail
  clear S17
  refine (T3.out v17).mono ?_
  rintro e v20 ⟨rfl, hB20⟩
  have F21 := Lib.hid (And.intro (F18.out.1.trans (hB20.mono F18.out.1.size)) (And.intro (F18.out.2.1.below hB20 (Nat.lt_of_lt_of_le F18.out.2.1.numLt (Nat.le_refl _)) (Nat.lt_of_lt_of_le F18.out.2.1.startLt (Nat.le_refl _))) (And.intro (F18.out.2.2.1.below hB20 F18.out.2.2.1.lt) (And.intro (F18.out.2.2.2.1.below hB20 F18.out.2.2.2.1.lt) (F18.out.2.2.2.2.below hB20 F18.out.2.2.2.2.lt)))))
  clear hB20
  obtain ⟨v22, S22, hR22, hB22⟩ := fresh_store (P := Tryd.prog) v20 25 #[.int .i64 0, .int .i64 0, .int .u8 0, .int .u8 0, .int .u8 0, .int .u8 0, .int .u8 0, .int .u8 0, .int .u8 0, .int .u8 0, .int .u8 0, .int .u8 0, .int .u8 0, .int .u8 0, .int .u8 0, .int .u8 0, .int .u8 0, .int .u8 0, .int .u8 0, .int .u8 0, .int .u8 0, .int .u8 0, .int .u8 0, .int .u8 0, .int .u8 0, .int .u8 0, .int .u8 0, .int .u8 0, .int .u8 0, .int .u8 0, .int .u8 0, .int .u8 0, .int .u8 0, .int .u8 0] d (by rw [hdl]; rfl) hd1
  have F23 := Lib.hid (And.intro (F21.out.1.trans (hB22.mono F21.out.1.size)) (And.intro (F21.out.2.1.below hB22 (Nat.lt_of_lt_of_le F21.out.2.1.numLt (Nat.le_refl _)) (Nat.lt_of_lt_of_le F21.out.2.1.startLt (Nat.le_refl _))) (And.intro (F21.out.2.2.1.below hB22 F21.out.2.2.1.lt) (And.intro (F21.out.2.2.2.1.below hB22 F21.out.2.2.2.1.lt) (And.intro (F21.out.2.2.2.2.below hB22 F21.out.2.2.2.2.lt) hR22)))))
  clear hR22 hB22
  clear L19
  have L24 := F23.out.2.2.2.2.2.loads (P := Tryd.prog) 34 hdl
  go_wp2_with fail
  clear S22
  refine (T4.out v22).mono ?_
  rintro e v25 ⟨rfl, hB25⟩
  have F26 := Lib.hid (And.intro (F23.out.1.trans (hB25.mono F23.out.1.size)) (And.intro (F23.out.2.1.below hB25 (Nat.lt_of_lt_of_le F23.out.2.1.numLt (Nat.le_refl _)) (Nat.lt_of_lt_of_le F23.out.2.1.startLt (Nat.le_refl _))) (And.intro (F23.out.2.2.1.below hB25 F23.out.2.2.1.lt) (And.intro (F23.out.2.2.2.1.below hB25 F23.out.2.2.2.1.lt) (And.intro (F23.out.2.2.2.2.1.below hB25 F23.out.2.2.2.2.1.lt) (F23.out.2.2.2.2.2.below hB25 F23.out.2.2.2.2.2.lt))))))
  clear hB25
  obtain ⟨v27, S27, hR27, hB27⟩ := fresh_store (P := Tryd.prog) v25 25 #[.int .i64 0, .int .i64 0, .int .u8 0, .int .u8 0, .int .u8 0, .int .u8 0, .int .u8 0, .int .u8 0, .int .u8 0, .int .u8 0, .int .u8 0, .int .u8 0, .int .u8 0, .int .u8 0, .int .u8 0, .int .u8 0, .int .u8 0, .int .u8 0, .int .u8 0, .int .u8 0, .int .u8 0, .int .u8 0, .int .u8 0, .int .u8 0, .int .u8 0, .int .u8 0, .int .u8 0, .int .u8 0, .int .u8 0, .int .u8 0, .int .u8 0, .int .u8 0, .int .u8 0, .int .u8 0] b (by rw [hbl]; rfl) hb1
  have F28 := Lib.hid (And.intro (F26.out.1.trans (hB27.mono F26.out.1.size)) (And.intro (F26.out.2.1.below hB27 (Nat.lt_of_lt_of_le F26.out.2.1.numLt (Nat.le_refl _)) (Nat.lt_of_lt_of_le F26.out.2.1.startLt (Nat.le_refl _))) (And.intro (F26.out.2.2.1.below hB27 F26.out.2.2.1.lt) (And.intro (F26.out.2.2.2.1.below hB27 F26.out.2.2.2.1.lt) (And.intro (F26.out.2.2.2.2.1.below hB27 F26.out.2.2.2.2.1.lt) (And.intro (F26.out.2.2.2.2.2.below hB27 F26.out.2.2.2.2.2.lt) hR27))))))
  clear hR27 hB27
  clear L24
  have L29 := F28.out.2.2.1.loads (P := Tryd.prog) 34 hcl
  go_wp2_with fail
  clear S27
  refine (T5.out v27).mono ?_
  rintro e v30 ⟨rfl, hB30⟩
  have F31 := Lib.hid (And.intro (F28.out.1.trans (hB30.mono F28.out.1.size)) (And.intro (F28.out.2.1.below hB30 (Nat.lt_of_lt_of_le F28.out.2.1.numLt (Nat.le_refl _)) (Nat.lt_of_lt_of_le F28.out.2.1.startLt (Nat.le_refl _))) (And.intro (F28.out.2.2.1.below hB30 F28.out.2.2.1.lt) (And.intro (F28.out.2.2.2.1.below hB30 F28.out.2.2.2.1.lt) (And.intro (F28.out.2.2.2.2.1.below hB30 F28.out.2.2.2.2.1.lt) (And.intro (F28.out.2.2.2.2.2.1.below hB30 F28.out.2.2.2.2.2.1.lt) (F28.out.2.2.2.2.2.2.below hB30 F28.out.2.2.2.2.2.2.lt)))))))
  clear hB30
  obtain ⟨v32, S32, hR32, hB32⟩ := fresh_store (P := Tryd.prog) v30 25 #[.int .i64 0, .int .i64 0, .int .u8 0, .int .u8 0, .int .u8 0, .int .u8 0, .int .u8 0, .int .u8 0, .int .u8 0, .int .u8 0, .int .u8 0, .int .u8 0, .int .u8 0, .int .u8 0, .int .u8 0, .int .u8 0, .int .u8 0, .int .u8 0, .int .u8 0, .int .u8 0, .int .u8 0, .int .u8 0, .int .u8 0, .int .u8 0, .int .u8 0, .int .u8 0, .int .u8 0, .int .u8 0, .int .u8 0, .int .u8 0, .int .u8 0, .int .u8 0, .int .u8 0, .int .u8 0] b (by rw [hbl]; rfl) hb1
  have F33 := Lib.hid (And.intro (F31.out.1.trans (hB32.mono F31.out.1.size)) (And.intro (F31.out.2.1.below hB32 (Nat.lt_of_lt_of_le F31.out.2.1.numLt (Nat.le_refl _)) (Nat.lt_of_lt_of_le F31.out.2.1.startLt (Nat.le_refl _))) (And.intro (F31.out.2.2.1.below hB32 F31.out.2.2.1.lt) (And.intro (F31.out.2.2.2.1.below hB32 F31.out.2.2.2.1.lt) (And.intro (F31.out.2.2.2.2.1.below hB32 F31.out.2.2.2.2.1.lt) (And.intro (F31.out.2.2.2.2.2.1.below hB32 F31.out.2.2.2.2.2.1.lt) (And.intro (F31.out.2.2.2.2.2.2.below hB32 F31.out.2.2.2.2.2.2.lt) hR32)))))))
  clear hR32 hB32
  clear L29
  have L34 := F33.out.2.2.2.1.loads (P := Tryd.prog) 34 hal
  go_wp2_with fail
  clear S32
  refine (T6.out v32).mono ?_
  rintro e v35 ⟨rfl, hB35⟩
  have F36 := Lib.hid (And.intro (F33.out.1.trans (hB35.mono F33.out.1.size)) (And.intro (F33.out.2.1.below hB35 (Nat.lt_of_lt_of_le F33.out.2.1.numLt (Nat.le_refl _)) (Nat.lt_of_lt_of_le F33.out.2.1.startLt (Nat.le_refl _))) (And.intro (F33.out.2.2.1.below hB35 F33.out.2.2.1.lt) (And.intro (F33.out.2.2.2.1.below hB35 F33.out.2.2.2.1.lt) (And.intro (F33.out.2.2.2.2.1.below hB35 F33.out.2.2.2.2.1.lt) (And.intro (F33.out.2.2.2.2.2.1.below hB35 F33.out.2.2.2.2.2.1.lt) (And.intro (F33.out.2.2.2.2.2.2.1.below hB35 F33.out.2.2.2.2.2.2.1.lt) (F33.out.2.2.2.2.2.2.2.below hB35 F33.out.2.2.2.2.2.2.2.lt))))))))
  clear hB35
  obtain ⟨v37, S37, hR37, hB37⟩ := fresh_store (P := Tryd.prog) v35 25 #[.int .i64 0, .int .i64 0, .int .u8 0, .int .u8 0, .int .u8 0, .int .u8 0, .int .u8 0, .int .u8 0, .int .u8 0, .int .u8 0, .int .u8 0, .int .u8 0, .int .u8 0, .int .u8 0, .int .u8 0, .int .u8 0, .int .u8 0, .int .u8 0, .int .u8 0, .int .u8 0, .int .u8 0, .int .u8 0, .int .u8 0, .int .u8 0, .int .u8 0, .int .u8 0, .int .u8 0, .int .u8 0, .int .u8 0, .int .u8 0, .int .u8 0, .int .u8 0, .int .u8 0, .int .u8 0] c (by rw [hcl]; rfl) hc1
  have F38 := Lib.hid (And.intro (F36.out.1.trans (hB37.mono F36.out.1.size)) (And.intro (F36.out.2.1.below hB37 (Nat.lt_of_lt_of_le F36.out.2.1.numLt (Nat.le_refl _)) (Nat.lt_of_lt_of_le F36.out.2.1.startLt (Nat.le_refl _))) (And.intro (F36.out.2.2.1.below hB37 F36.out.2.2.1.lt) (And.intro (F36.out.2.2.2.1.below hB37 F36.out.2.2.2.1.lt) (And.intro (F36.out.2.2.2.2.1.below hB37 F36.out.2.2.2.2.1.lt) (And.intro (F36.out.2.2.2.2.2.1.below hB37 F36.out.2.2.2.2.2.1.lt) (And.intro (F36.out.2.2.2.2.2.2.1.below hB37 F36.out.2.2.2.2.2.2.1.lt) (And.intro (F36.out.2.2.2.2.2.2.2.below hB37 F36.out.2.2.2.2.2.2.2.lt) hR37))))))))
  clear hR37 hB37
  clear L34
  have L39 := F38.out.2.2.2.2.1.loads (P := Tryd.prog) 34 hbl
  have L40 := F38.out.2.2.2.2.2.2.1.loads (P := Tryd.prog) 34 hbl
  have L41 := F38.out.2.2.2.2.2.2.2.1.loads (P := Tryd.prog) 34 hbl
  have L42 := F38.out.2.2.2.2.2.2.2.2.loads (P := Tryd.prog) 34 hcl
  have L43 := F38.out.2.2.1.loads (P := Tryd.prog) 34 hcl
  go_wp2_with fail
  clear S37
  go_ret
  exact ⟨rfl, F38.out.1⟩

theorem products_walk (A B : Int) (pad : List UInt8) (m n : Int) (hp : pad.length = 32) (w : World) (hl : Laid w) :
    Calls Tryd.prog 7 #[.agg (capV A B pad).toArray, .int .i64 m, .int .i64 n] w fun e w' => e = .returned (.bool true) ∧ Below w.heap.size w w' := by
  by_cases h : IsGrp A ∧ IsGrp B
  · obtain ⟨⟨a, rfl, ha⟩, ⟨b, rfl, hb⟩⟩ := h
    exact products_good a b pad hp m n ha hb w hl
  · exact products_bad A B pad hp m n h w hl
end Go.Proofs.YtejjincnghmbbaaDoor
