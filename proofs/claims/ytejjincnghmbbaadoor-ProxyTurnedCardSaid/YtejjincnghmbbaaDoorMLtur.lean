/- chartroomlaw11.ProxyTurned, walked. -/
import Derived.Test.YtejjincnghmbbaaDoorM24
namespace Go.Proofs.YtejjincnghmbbaaDoor
open Go.RowKit

set_option maxRecDepth 20000 in
set_option maxHeartbeats 8000000 in
theorem turned_walk (i j l : Int) (k seed : List UInt8) (hk : k.length = 32) (hs : seed.length = 32) (w : World) (hl : Laid w) :
    Calls Tryd.prog 5 #[.int .i64 i, .int .i64 j, .int .i64 l, .agg (k.map u8v).toArray, .agg (seed.map u8v).toArray] w fun e w' => e = .returned (.bool true) ∧ Below w.heap.size w w' := by
  have K1 := refKey_any i
  have K2 := refKey_any j
  have K3 := refKey_any l
  have hx0 := keyZ_pos i; have hy0 := keyZ_pos j; have hz0 := keyZ_pos l
  have hx := keyZ_lt i; have hy := keyZ_lt j; have hz := keyZ_lt l
  generalize keyZ i = x at *
  generalize keyZ j = y at *
  generalize keyZ l = z at *
  have CB := base_E x hx
  have CL := lock_E x k seed hk hs
  have C1 := factor_ok x y hx0 hx hy0 hy
  have C2 := factor_ok y z hy0 hy hz0 hz
  have C3 := factor_ok x z hx0 hx hz0 hz
  have T1 := turn_E x y k seed hk hx0 hx hy0 hy
  have T2 := turn_E y z k seed hk hy0 hy hz0 hz
  have T3 := turn_E x z k seed hk hx0 hx hz0 hz
  have O1 := open_E y k seed hk hy0 hy
  have O2 := open_E z k seed hk hz0 hz
  have EK := run_eqlKey k k hk hk
  rw [beq_self_eq_true] at EK
  have EC : ∀ w, (eqlCap (capE z k seed).toArray (capE z k seed).toArray).run Tryd.prog w = .ok (.bool true) w := fun w => by
    have := run_eqlCap ((Chart.E (z * lockR seed) : Nat) : Int) ((Chart.E (lockS seed + lockR seed) : Nat) : Int) ((Chart.E (z * lockR seed) : Nat) : Int) ((Chart.E (lockS seed + lockR seed) : Nat) : Int) (Chart.comb k (Chart.E (lockS seed))) (Chart.comb k (Chart.E (lockS seed))) (Chart.comb_length hk _) (Chart.comb_length hk _) w
    simp only [beq_self_eq_true, Bool.and_true] at this
    exact this
  have EP := run_eqlKey (Chart.comb k (Chart.E (lockS seed))) (Chart.comb k (Chart.E (lockS seed))) (Chart.comb_length hk _) (Chart.comb_length hk _)
  rw [beq_self_eq_true] at EP
  obtain ⟨B, hBB⟩ : ∃ B, B = Chart.E (lockS seed + lockR seed) := ⟨_, rfl⟩
  obtain ⟨pd, hpd⟩ : ∃ d, d = Chart.comb k (Chart.E (lockS seed)) := ⟨_, rfl⟩
  have hpl : pd.length = 32 := by rw [hpd]; exact Chart.comb_length hk _
  obtain ⟨A1, hA1⟩ : ∃ A, A = Chart.E (x * lockR seed) := ⟨_, rfl⟩
  obtain ⟨A2, hA2⟩ : ∃ A, A = Chart.E (y * lockR seed) := ⟨_, rfl⟩
  have hcc : capE x k seed = capV (A1 : Int) (B : Int) pd := by rw [hA1, hBB, hpd]; rfl
  have hdc : capE y k seed = capV (A2 : Int) (B : Int) pd := by rw [hA2, hBB, hpd]; rfl
  obtain ⟨a, ha⟩ : ∃ a, a = k.map u8v := ⟨_, rfl⟩
  have hal : a.length = 32 := by rw [ha]; rw [List.length_map, hk]
  have ha1 : ∀ x ∈ a, x.oneCell' = true := by rw [ha]; exact oneCell_bytes _
  obtain ⟨b, hb⟩ : ∃ a, a = seed.map u8v := ⟨_, rfl⟩
  have hbl : b.length = 32 := by rw [hb]; rw [List.length_map, hs]
  have hb1 : ∀ x ∈ b, x.oneCell' = true := by rw [hb]; exact oneCell_bytes _
  obtain ⟨c, hc⟩ : ∃ a, a = capE x k seed := ⟨_, rfl⟩
  have hcl : c.length = 34 := by rw [hc]; exact capE_length _ hk
  have hc1 : ∀ x ∈ c, x.oneCell' = true := by rw [hc]; exact capE_one _ _ _
  obtain ⟨d, hd⟩ : ∃ a, a = capE y k seed := ⟨_, rfl⟩
  have hdl : d.length = 34 := by rw [hd]; exact capE_length _ hk
  have hd1 : ∀ x ∈ d, x.oneCell' = true := by rw [hd]; exact capE_one _ _ _
  obtain ⟨f, hf⟩ : ∃ a, a = capE z k seed := ⟨_, rfl⟩
  have hfl : f.length = 34 := by rw [hf]; exact capE_length _ hk
  have hf1 : ∀ x ∈ f, x.oneCell' = true := by rw [hf]; exact capE_one _ _ _
  rw [← hpd] at EP
  rw [← hc] at hcc CL T1 T3
  rw [← hd] at hdc T1 T2 O1
  rw [← hf] at T2 T3 O2 EC
  generalize Chart.E x = yy at *
  rw [← ha] at CL O1 O2 EK ⊢
  rw [← hb] at CL ⊢
  generalize Chart.factor x y = m at *
  generalize Chart.factor y z = n at *
  generalize Chart.factor x z = o at *
  replace K1 := Lib.hid K1
  replace K2 := Lib.hid K2
  replace K3 := Lib.hid K3
  replace CB := Lib.hid CB
  replace CL := Lib.hid CL
  replace C1 := Lib.hid C1
  replace C2 := Lib.hid C2
  replace C3 := Lib.hid C3
  replace T1 := Lib.hid T1
  replace T2 := Lib.hid T2
  replace T3 := Lib.hid T3
  replace O1 := Lib.hid O1
  replace O2 := Lib.hid O2
  replace hcc := Lib.hid hcc
  replace hdc := Lib.hid hdc
  clear ha hb hc hd hf hx0 hx hy0 hy hz0 hz hBB hpd hA1 hA2
  obtain ⟨b1, hb1⟩ : ∃ x, x = w.alloc (.cells a.toArray 23) := ⟨_, rfl⟩
  obtain ⟨b2, hb2⟩ : ∃ x, x = b1.alloc (.cells b.toArray 23) := ⟨_, rfl⟩
  have s1 : b1.heap.size = w.heap.size + 1 := by rw [hb1]; simp
  have r1 : RowIs b2 (w.heap.size) 23 a := by
    rw [hb2]; refine RowIs.alloc ?_ _
    rw [hb1]; exact RowIs.new w a _
  have r2 : RowIs b2 (w.heap.size + 1) 23 b := by
    rw [hb2, ← s1]; exact RowIs.new b1 b _
  have hB0 : Below w.heap.size w b2 := by rw [hb2, hb1]; exact ((Below.refl _ w).alloc (by first | exact Nat.le_refl _ | (simp; omega) | simp) _).alloc (by first | exact Nat.le_refl _ | (simp; omega) | simp) _
  have F0 := Lib.hid (And.intro hB0 (And.intro (hl.below hB0 hl.numLt hl.startLt) (And.intro r1 r2)))
  clear hB0 hl r1 r2 s1
  go_enter Tryd.func5, Tryd.ntmps5
  go_upto_region 1 with fail
  rw [← hb1, ← hb2]
  clear hb1 hb2
  go_wp2_with fail
  refine (sane_ok b2 F0.out.2.1).mono ?_
  rintro e v1 ⟨rfl, hB1⟩
  have F2 := Lib.hid (And.intro (F0.out.1.trans (hB1.mono F0.out.1.size)) (And.intro (F0.out.2.1.below hB1 (Nat.lt_of_lt_of_le F0.out.2.1.numLt (Nat.le_refl _)) (Nat.lt_of_lt_of_le F0.out.2.1.startLt (Nat.le_refl _))) (And.intro (F0.out.2.2.1.below hB1 F0.out.2.2.1.lt) (F0.out.2.2.2.below hB1 F0.out.2.2.2.lt))))
  clear hB1
  go_wp2_with fail
  refine (K1.out v1).mono ?_
  rintro e v3 ⟨rfl, rfl⟩
  go_wp2_with fail
  refine (K2.out v1).mono ?_
  rintro e v4 ⟨rfl, rfl⟩
  go_wp2_with fail
  refine (K3.out v1).mono ?_
  rintro e v5 ⟨rfl, rfl⟩
  go_wp2_with fail
  refine (CB.out v1).mono ?_
  rintro e v6 ⟨rfl, hB6⟩
  have F7 := Lib.hid (And.intro (F2.out.1.trans (hB6.mono F2.out.1.size)) (And.intro (F2.out.2.1.below hB6 (Nat.lt_of_lt_of_le F2.out.2.1.numLt (Nat.le_refl _)) (Nat.lt_of_lt_of_le F2.out.2.1.startLt (Nat.le_refl _))) (And.intro (F2.out.2.2.1.below hB6 F2.out.2.2.1.lt) (F2.out.2.2.2.below hB6 F2.out.2.2.2.lt))))
  clear hB6
  have L8 := F7.out.2.2.1.loads (P := Tryd.prog) 32 hal
  have L9 := F7.out.2.2.2.loads (P := Tryd.prog) 32 hbl
  go_wp2_with fail
  refine (CL.out v6 F7.out.2.1).mono ?_
  rintro e v10 ⟨rfl, hB10⟩
  have F11 := Lib.hid (And.intro (F7.out.1.trans (hB10.mono F7.out.1.size)) (And.intro (F7.out.2.1.below hB10 (Nat.lt_of_lt_of_le F7.out.2.1.numLt (Nat.le_refl _)) (Nat.lt_of_lt_of_le F7.out.2.1.startLt (Nat.le_refl _))) (And.intro (F7.out.2.2.1.below hB10 F7.out.2.2.1.lt) (F7.out.2.2.2.below hB10 F7.out.2.2.2.lt))))
  clear hB10
  obtain ⟨v12, S12, hR12, hB12⟩ := fresh_store (P := Tryd.prog) v10 25 #[.int .i64 0, .int .i64 0, .int .u8 0, .int .u8 0, .int .u8 0, .int .u8 0, .int .u8 0, .int .u8 0, .int .u8 0, .int .u8 0, .int .u8 0, .int .u8 0, .int .u8 0, .int .u8 0, .int .u8 0, .int .u8 0, .int .u8 0, .int .u8 0, .int .u8 0, .int .u8 0, .int .u8 0, .int .u8 0, .int .u8 0, .int .u8 0, .int .u8 0, .int .u8 0, .int .u8 0, .int .u8 0, .int .u8 0, .int .u8 0, .int .u8 0, .int .u8 0, .int .u8 0, .int .u8 0] c (by rw [hcl]; rfl) hc1
  have F13 := Lib.hid (And.intro (F11.out.1.trans (hB12.mono F11.out.1.size)) (And.intro (F11.out.2.1.below hB12 (Nat.lt_of_lt_of_le F11.out.2.1.numLt (Nat.le_refl _)) (Nat.lt_of_lt_of_le F11.out.2.1.startLt (Nat.le_refl _))) (And.intro (F11.out.2.2.1.below hB12 F11.out.2.2.1.lt) (And.intro (F11.out.2.2.2.below hB12 F11.out.2.2.2.lt) hR12))))
  clear hR12 hB12
  clear L8
  clear L9
  go_wp2_with fail
  clear S12
  refine (C1.out v12).mono ?_
  rintro e v14 ⟨rfl, hB14⟩
  have F15 := Lib.hid (And.intro (F13.out.1.trans (hB14.mono F13.out.1.size)) (And.intro (F13.out.2.1.below hB14 (Nat.lt_of_lt_of_le F13.out.2.1.numLt (Nat.le_refl _)) (Nat.lt_of_lt_of_le F13.out.2.1.startLt (Nat.le_refl _))) (And.intro (F13.out.2.2.1.below hB14 F13.out.2.2.1.lt) (And.intro (F13.out.2.2.2.1.below hB14 F13.out.2.2.2.1.lt) (F13.out.2.2.2.2.below hB14 F13.out.2.2.2.2.lt)))))
  clear hB14
  go_wp2_with fail
  refine (C2.out v14).mono ?_
  rintro e v16 ⟨rfl, hB16⟩
  have F17 := Lib.hid (And.intro (F15.out.1.trans (hB16.mono F15.out.1.size)) (And.intro (F15.out.2.1.below hB16 (Nat.lt_of_lt_of_le F15.out.2.1.numLt (Nat.le_refl _)) (Nat.lt_of_lt_of_le F15.out.2.1.startLt (Nat.le_refl _))) (And.intro (F15.out.2.2.1.below hB16 F15.out.2.2.1.lt) (And.intro (F15.out.2.2.2.1.below hB16 F15.out.2.2.2.1.lt) (F15.out.2.2.2.2.below hB16 F15.out.2.2.2.2.lt)))))
  clear hB16
  go_wp2_with fail
  refine (C3.out v16).mono ?_
  rintro e v18 ⟨rfl, hB18⟩
  have F19 := Lib.hid (And.intro (F17.out.1.trans (hB18.mono F17.out.1.size)) (And.intro (F17.out.2.1.below hB18 (Nat.lt_of_lt_of_le F17.out.2.1.numLt (Nat.le_refl _)) (Nat.lt_of_lt_of_le F17.out.2.1.startLt (Nat.le_refl _))) (And.intro (F17.out.2.2.1.below hB18 F17.out.2.2.1.lt) (And.intro (F17.out.2.2.2.1.below hB18 F17.out.2.2.2.1.lt) (F17.out.2.2.2.2.below hB18 F17.out.2.2.2.2.lt)))))
  clear hB18
  have L20 := F19.out.2.2.2.2.loads (P := Tryd.prog) 34 hcl
  go_wp2_with fail
  refine (T1.out v18).mono ?_
  rintro e v21 ⟨rfl, hB21⟩
  have F22 := Lib.hid (And.intro (F19.out.1.trans (hB21.mono F19.out.1.size)) (And.intro (F19.out.2.1.below hB21 (Nat.lt_of_lt_of_le F19.out.2.1.numLt (Nat.le_refl _)) (Nat.lt_of_lt_of_le F19.out.2.1.startLt (Nat.le_refl _))) (And.intro (F19.out.2.2.1.below hB21 F19.out.2.2.1.lt) (And.intro (F19.out.2.2.2.1.below hB21 F19.out.2.2.2.1.lt) (F19.out.2.2.2.2.below hB21 F19.out.2.2.2.2.lt)))))
  clear hB21
  obtain ⟨v23, S23, hR23, hB23⟩ := fresh_store (P := Tryd.prog) v21 25 #[.int .i64 0, .int .i64 0, .int .u8 0, .int .u8 0, .int .u8 0, .int .u8 0, .int .u8 0, .int .u8 0, .int .u8 0, .int .u8 0, .int .u8 0, .int .u8 0, .int .u8 0, .int .u8 0, .int .u8 0, .int .u8 0, .int .u8 0, .int .u8 0, .int .u8 0, .int .u8 0, .int .u8 0, .int .u8 0, .int .u8 0, .int .u8 0, .int .u8 0, .int .u8 0, .int .u8 0, .int .u8 0, .int .u8 0, .int .u8 0, .int .u8 0, .int .u8 0, .int .u8 0, .int .u8 0] d (by rw [hdl]; rfl) hd1
  have F24 := Lib.hid (And.intro (F22.out.1.trans (hB23.mono F22.out.1.size)) (And.intro (F22.out.2.1.below hB23 (Nat.lt_of_lt_of_le F22.out.2.1.numLt (Nat.le_refl _)) (Nat.lt_of_lt_of_le F22.out.2.1.startLt (Nat.le_refl _))) (And.intro (F22.out.2.2.1.below hB23 F22.out.2.2.1.lt) (And.intro (F22.out.2.2.2.1.below hB23 F22.out.2.2.2.1.lt) (And.intro (F22.out.2.2.2.2.below hB23 F22.out.2.2.2.2.lt) hR23)))))
  clear hR23 hB23
  clear L20
  have L25 := F24.out.2.2.2.2.2.loads (P := Tryd.prog) 34 hdl
  go_wp2_with fail
  clear S23
  refine (T2.out v23).mono ?_
  rintro e v26 ⟨rfl, hB26⟩
  have F27 := Lib.hid (And.intro (F24.out.1.trans (hB26.mono F24.out.1.size)) (And.intro (F24.out.2.1.below hB26 (Nat.lt_of_lt_of_le F24.out.2.1.numLt (Nat.le_refl _)) (Nat.lt_of_lt_of_le F24.out.2.1.startLt (Nat.le_refl _))) (And.intro (F24.out.2.2.1.below hB26 F24.out.2.2.1.lt) (And.intro (F24.out.2.2.2.1.below hB26 F24.out.2.2.2.1.lt) (And.intro (F24.out.2.2.2.2.1.below hB26 F24.out.2.2.2.2.1.lt) (F24.out.2.2.2.2.2.below hB26 F24.out.2.2.2.2.2.lt))))))
  clear hB26
  obtain ⟨v28, S28, hR28, hB28⟩ := fresh_store (P := Tryd.prog) v26 25 #[.int .i64 0, .int .i64 0, .int .u8 0, .int .u8 0, .int .u8 0, .int .u8 0, .int .u8 0, .int .u8 0, .int .u8 0, .int .u8 0, .int .u8 0, .int .u8 0, .int .u8 0, .int .u8 0, .int .u8 0, .int .u8 0, .int .u8 0, .int .u8 0, .int .u8 0, .int .u8 0, .int .u8 0, .int .u8 0, .int .u8 0, .int .u8 0, .int .u8 0, .int .u8 0, .int .u8 0, .int .u8 0, .int .u8 0, .int .u8 0, .int .u8 0, .int .u8 0, .int .u8 0, .int .u8 0] f (by rw [hfl]; rfl) hf1
  have F29 := Lib.hid (And.intro (F27.out.1.trans (hB28.mono F27.out.1.size)) (And.intro (F27.out.2.1.below hB28 (Nat.lt_of_lt_of_le F27.out.2.1.numLt (Nat.le_refl _)) (Nat.lt_of_lt_of_le F27.out.2.1.startLt (Nat.le_refl _))) (And.intro (F27.out.2.2.1.below hB28 F27.out.2.2.1.lt) (And.intro (F27.out.2.2.2.1.below hB28 F27.out.2.2.2.1.lt) (And.intro (F27.out.2.2.2.2.1.below hB28 F27.out.2.2.2.2.1.lt) (And.intro (F27.out.2.2.2.2.2.below hB28 F27.out.2.2.2.2.2.lt) hR28))))))
  clear hR28 hB28
  clear L25
  have L30 := F29.out.2.2.2.2.1.loads (P := Tryd.prog) 34 hcl
  go_wp2_with fail
  clear S28
  refine (T3.out v28).mono ?_
  rintro e v31 ⟨rfl, hB31⟩
  have F32 := Lib.hid (And.intro (F29.out.1.trans (hB31.mono F29.out.1.size)) (And.intro (F29.out.2.1.below hB31 (Nat.lt_of_lt_of_le F29.out.2.1.numLt (Nat.le_refl _)) (Nat.lt_of_lt_of_le F29.out.2.1.startLt (Nat.le_refl _))) (And.intro (F29.out.2.2.1.below hB31 F29.out.2.2.1.lt) (And.intro (F29.out.2.2.2.1.below hB31 F29.out.2.2.2.1.lt) (And.intro (F29.out.2.2.2.2.1.below hB31 F29.out.2.2.2.2.1.lt) (And.intro (F29.out.2.2.2.2.2.1.below hB31 F29.out.2.2.2.2.2.1.lt) (F29.out.2.2.2.2.2.2.below hB31 F29.out.2.2.2.2.2.2.lt)))))))
  clear hB31
  obtain ⟨v33, S33, hR33, hB33⟩ := fresh_store (P := Tryd.prog) v31 25 #[.int .i64 0, .int .i64 0, .int .u8 0, .int .u8 0, .int .u8 0, .int .u8 0, .int .u8 0, .int .u8 0, .int .u8 0, .int .u8 0, .int .u8 0, .int .u8 0, .int .u8 0, .int .u8 0, .int .u8 0, .int .u8 0, .int .u8 0, .int .u8 0, .int .u8 0, .int .u8 0, .int .u8 0, .int .u8 0, .int .u8 0, .int .u8 0, .int .u8 0, .int .u8 0, .int .u8 0, .int .u8 0, .int .u8 0, .int .u8 0, .int .u8 0, .int .u8 0, .int .u8 0, .int .u8 0] f (by rw [hfl]; rfl) hf1
  have F34 := Lib.hid (And.intro (F32.out.1.trans (hB33.mono F32.out.1.size)) (And.intro (F32.out.2.1.below hB33 (Nat.lt_of_lt_of_le F32.out.2.1.numLt (Nat.le_refl _)) (Nat.lt_of_lt_of_le F32.out.2.1.startLt (Nat.le_refl _))) (And.intro (F32.out.2.2.1.below hB33 F32.out.2.2.1.lt) (And.intro (F32.out.2.2.2.1.below hB33 F32.out.2.2.2.1.lt) (And.intro (F32.out.2.2.2.2.1.below hB33 F32.out.2.2.2.2.1.lt) (And.intro (F32.out.2.2.2.2.2.1.below hB33 F32.out.2.2.2.2.2.1.lt) (And.intro (F32.out.2.2.2.2.2.2.below hB33 F32.out.2.2.2.2.2.2.lt) hR33)))))))
  clear hR33 hB33
  clear L30
  have L35 := F34.out.2.2.2.2.2.1.loads (P := Tryd.prog) 34 hdl
  go_wp2_with fail
  clear S33
  refine (O1.out v33 F34.out.2.1).mono ?_
  rintro e v36 ⟨rfl, hB36⟩
  have F37 := Lib.hid (And.intro (F34.out.1.trans (hB36.mono F34.out.1.size)) (And.intro (F34.out.2.1.below hB36 (Nat.lt_of_lt_of_le F34.out.2.1.numLt (Nat.le_refl _)) (Nat.lt_of_lt_of_le F34.out.2.1.startLt (Nat.le_refl _))) (And.intro (F34.out.2.2.1.below hB36 F34.out.2.2.1.lt) (And.intro (F34.out.2.2.2.1.below hB36 F34.out.2.2.2.1.lt) (And.intro (F34.out.2.2.2.2.1.below hB36 F34.out.2.2.2.2.1.lt) (And.intro (F34.out.2.2.2.2.2.1.below hB36 F34.out.2.2.2.2.2.1.lt) (And.intro (F34.out.2.2.2.2.2.2.1.below hB36 F34.out.2.2.2.2.2.2.1.lt) (F34.out.2.2.2.2.2.2.2.below hB36 F34.out.2.2.2.2.2.2.2.lt))))))))
  clear hB36
  obtain ⟨v38, S38, hR38, hB38⟩ := fresh_store (P := Tryd.prog) v36 23 #[.int .u8 0, .int .u8 0, .int .u8 0, .int .u8 0, .int .u8 0, .int .u8 0, .int .u8 0, .int .u8 0, .int .u8 0, .int .u8 0, .int .u8 0, .int .u8 0, .int .u8 0, .int .u8 0, .int .u8 0, .int .u8 0, .int .u8 0, .int .u8 0, .int .u8 0, .int .u8 0, .int .u8 0, .int .u8 0, .int .u8 0, .int .u8 0, .int .u8 0, .int .u8 0, .int .u8 0, .int .u8 0, .int .u8 0, .int .u8 0, .int .u8 0, .int .u8 0] a (by rw [hal]; rfl) ha1
  have F39 := Lib.hid (And.intro (F37.out.1.trans (hB38.mono F37.out.1.size)) (And.intro (F37.out.2.1.below hB38 (Nat.lt_of_lt_of_le F37.out.2.1.numLt (Nat.le_refl _)) (Nat.lt_of_lt_of_le F37.out.2.1.startLt (Nat.le_refl _))) (And.intro (F37.out.2.2.1.below hB38 F37.out.2.2.1.lt) (And.intro (F37.out.2.2.2.1.below hB38 F37.out.2.2.2.1.lt) (And.intro (F37.out.2.2.2.2.1.below hB38 F37.out.2.2.2.2.1.lt) (And.intro (F37.out.2.2.2.2.2.1.below hB38 F37.out.2.2.2.2.2.1.lt) (And.intro (F37.out.2.2.2.2.2.2.1.below hB38 F37.out.2.2.2.2.2.2.1.lt) (And.intro (F37.out.2.2.2.2.2.2.2.below hB38 F37.out.2.2.2.2.2.2.2.lt) hR38))))))))
  clear hR38 hB38
  clear L35
  have L40 := F39.out.2.2.2.2.2.2.1.loads (P := Tryd.prog) 34 hfl
  go_wp2_with fail
  clear S38
  refine (O2.out v38 F39.out.2.1).mono ?_
  rintro e vz ⟨rfl, hBz⟩
  have F42 := Lib.hid (And.intro (F39.out.1.trans (hBz.mono F39.out.1.size)) (And.intro (F39.out.2.1.below hBz (Nat.lt_of_lt_of_le F39.out.2.1.numLt (Nat.le_refl _)) (Nat.lt_of_lt_of_le F39.out.2.1.startLt (Nat.le_refl _))) (And.intro (F39.out.2.2.1.below hBz F39.out.2.2.1.lt) (And.intro (F39.out.2.2.2.1.below hBz F39.out.2.2.2.1.lt) (And.intro (F39.out.2.2.2.2.1.below hBz F39.out.2.2.2.2.1.lt) (And.intro (F39.out.2.2.2.2.2.1.below hBz F39.out.2.2.2.2.2.1.lt) (And.intro (F39.out.2.2.2.2.2.2.1.below hBz F39.out.2.2.2.2.2.2.1.lt) (And.intro (F39.out.2.2.2.2.2.2.2.1.below hBz F39.out.2.2.2.2.2.2.2.1.lt) (F39.out.2.2.2.2.2.2.2.2.below hBz F39.out.2.2.2.2.2.2.2.2.lt)))))))))
  clear hBz
  obtain ⟨vy, Sy, hRy, hBy⟩ := fresh_store (P := Tryd.prog) vz 23 #[.int .u8 0, .int .u8 0, .int .u8 0, .int .u8 0, .int .u8 0, .int .u8 0, .int .u8 0, .int .u8 0, .int .u8 0, .int .u8 0, .int .u8 0, .int .u8 0, .int .u8 0, .int .u8 0, .int .u8 0, .int .u8 0, .int .u8 0, .int .u8 0, .int .u8 0, .int .u8 0, .int .u8 0, .int .u8 0, .int .u8 0, .int .u8 0, .int .u8 0, .int .u8 0, .int .u8 0, .int .u8 0, .int .u8 0, .int .u8 0, .int .u8 0, .int .u8 0] a (by rw [hal]; rfl) ha1
  have F44 := Lib.hid (And.intro (F42.out.1.trans (hBy.mono F42.out.1.size)) (And.intro (F42.out.2.1.below hBy (Nat.lt_of_lt_of_le F42.out.2.1.numLt (Nat.le_refl _)) (Nat.lt_of_lt_of_le F42.out.2.1.startLt (Nat.le_refl _))) (And.intro (F42.out.2.2.1.below hBy F42.out.2.2.1.lt) (And.intro (F42.out.2.2.2.1.below hBy F42.out.2.2.2.1.lt) (And.intro (F42.out.2.2.2.2.1.below hBy F42.out.2.2.2.2.1.lt) (And.intro (F42.out.2.2.2.2.2.1.below hBy F42.out.2.2.2.2.2.1.lt) (And.intro (F42.out.2.2.2.2.2.2.1.below hBy F42.out.2.2.2.2.2.2.1.lt) (And.intro (F42.out.2.2.2.2.2.2.2.1.below hBy F42.out.2.2.2.2.2.2.2.1.lt) (And.intro (F42.out.2.2.2.2.2.2.2.2.below hBy F42.out.2.2.2.2.2.2.2.2.lt) hRy)))))))))
  clear hRy hBy
  clear L40
  have L45 := F44.out.2.2.2.2.2.2.2.2.1.loads (P := Tryd.prog) 32 hal
  have L46 := F44.out.2.2.1.loads (P := Tryd.prog) 32 hal
  have L47 := F44.out.2.2.2.2.2.2.2.2.2.loads (P := Tryd.prog) 32 hal
  have L48 := F44.out.2.2.2.2.2.2.1.loads (P := Tryd.prog) 34 hfl
  have L49 := F44.out.2.2.2.2.2.2.2.1.loads (P := Tryd.prog) 34 hfl
  have c1 : vy.cell? ⟨_, 1, none⟩ = some (.int .i64 (B : Int)) := (F44.out.2.2.2.2.1.cell 1).trans (by rw [hcc.out]; rfl)
  have d1 : vy.cell? ⟨_, 1, none⟩ = some (.int .i64 (B : Int)) := (F44.out.2.2.2.2.2.1.cell 1).trans (by rw [hdc.out]; rfl)
  have P1 := cap_pad (show RowIs vy _ _ (capV (A1 : Int) (B : Int) pd) from by rw [← hcc.out]; exact F44.out.2.2.2.2.1) hpl
  have P2 := cap_pad (show RowIs vy _ _ (capV (A2 : Int) (B : Int) pd) from by rw [← hdc.out]; exact F44.out.2.2.2.2.2.1) hpl
  go_wp2_with fail
  go_ret
  exact ⟨rfl, F44.out.1⟩
end Go.Proofs.YtejjincnghmbbaaDoor
