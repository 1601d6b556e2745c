/- chartroomlaw11.ProxyOther, walked. -/
import Derived.Deep.RegionHeld3
import Derived.Test.YtejjincnghmbbaaDoorMHid
import Derived.Test.YtejjincnghmbbaaDoorM24
namespace Go.Proofs.YtejjincnghmbbaaDoor
open Go.RowKit

theorem row_below {w w' : World} {g : Nat} {t : TypeId} {cs : List Value} (hb : Below w.heap.size w w') (h : RowIs w g t cs) : RowIs w' g t cs := h.below hb h.lt
theorem below_on {w0 w w' : World} (h : Below w0.heap.size w0 w) (hb : Below w.heap.size w w') : Below w0.heap.size w0 w' := h.trans (hb.mono h.size)

set_option maxRecDepth 20000 in
set_option maxHeartbeats 4000000 in
theorem other_same (i j : Int) (k seed : List UInt8) (hk : k.length = 32) (hs : seed.length = 32) (w : World) (hl : Laid w) (hxy : keyZ i = keyZ j) :
    Calls Tryd.prog 8 #[.int .i64 i, .int .i64 j, .agg (k.map u8v).toArray, .agg (seed.map u8v).toArray] w fun e w' => e = .returned (.bool true) ∧ Below w.heap.size w w' := by
  have K1 := refKey_any i
  have K2 := refKey_any j
  rw [← hxy] at K2
  generalize keyZ i = x at *
  obtain ⟨a, ha⟩ : ∃ a, a = k.map u8v := ⟨_, rfl⟩
  have hal : a.length = 32 := by rw [ha]; rw [List.length_map, hk]
  have ha1 : ∀ x ∈ a, x.oneCell' = true := by rw [ha]; exact oneCell_bytes _
  obtain ⟨b, hb⟩ : ∃ a, a = seed.map u8v := ⟨_, rfl⟩
  have hbl : b.length = 32 := by rw [hb]; rw [List.length_map, hs]
  have hb1 : ∀ x ∈ b, x.oneCell' = true := by rw [hb]; exact oneCell_bytes _
  rw [← ha, ← hb]
  replace K1 := Lib.hid K1; replace K2 := Lib.hid K2
  clear ha hb hxy
  obtain ⟨b1, hb1⟩ : ∃ x, x = w.alloc (.cells a.toArray 23) := ⟨_, rfl⟩
  obtain ⟨b2, hb2⟩ : ∃ x, x = b1.alloc (.cells b.toArray 23) := ⟨_, rfl⟩
  have s1 : b1.heap.size = w.heap.size + 1 := by rw [hb1]; simp
  have r1 : RowIs b2 (w.heap.size) 23 a := by
    rw [hb2]; refine RowIs.alloc ?_ _
    rw [hb1]; exact RowIs.new w a _
  have r2 : RowIs b2 (w.heap.size + 1) 23 b := by
    rw [hb2, ← s1]; exact RowIs.new b1 b _
  have hB0 : Below w.heap.size w b2 := by rw [hb2, hb1]; exact ((Below.refl _ w).alloc (by first | exact Nat.le_refl _ | (simp; omega) | simp) _).alloc (by first | exact Nat.le_refl _ | (simp; omega) | simp) _
  have F0 := Lib.hid (And.intro hB0 (And.intro (hl.below hB0 hl.numLt hl.startLt) (And.intro r1 r2)))
  clear hB0 hl r1 r2 s1
  go_enter Tryd.func8, Tryd.ntmps8
  go_upto_region 1 with fail
  rw [← hb1, ← hb2]
  clear hb1 hb2
  go_wp2_with fail
  refine (sane_ok b2 F0.out.2.1).mono ?_
  rintro e v1 ⟨rfl, hB1⟩
  have F2 := Lib.hid (And.intro (F0.out.1.trans (hB1.mono F0.out.1.size)) (And.intro (F0.out.2.1.below hB1 (Nat.lt_of_lt_of_le F0.out.2.1.numLt (Nat.le_refl _)) (Nat.lt_of_lt_of_le F0.out.2.1.startLt (Nat.le_refl _))) (And.intro (F0.out.2.2.1.below hB1 F0.out.2.2.1.lt) (F0.out.2.2.2.below hB1 F0.out.2.2.2.lt))))
  clear hB1
  go_wp2_with fail
  refine (K1.out v1).mono ?_
  rintro e v3 ⟨rfl, rfl⟩
  go_wp2_with fail
  refine (K2.out v1).mono ?_
  rintro e v4 ⟨rfl, rfl⟩
  go_wp2_with fail
  go_ret
  exact ⟨rfl, F2.out.1⟩

set_option maxRecDepth 20000 in
set_option maxHeartbeats 8000000 in
theorem other_diff (i j : Int) (k seed : List UInt8) (hk : k.length = 32) (hs : seed.length = 32) (w : World) (hl : Laid w) (hxy : keyZ i ≠ keyZ j) :
    Calls Tryd.prog 8 #[.int .i64 i, .int .i64 j, .agg (k.map u8v).toArray, .agg (seed.map u8v).toArray] w fun e w' => e = .returned (.bool true) ∧ Below w.heap.size w w' := by
  have K1 := refKey_any i
  have K2 := refKey_any j
  have hx0 := keyZ_pos i; have hx := keyZ_lt i
  have hy0 := keyZ_pos j; have hy := keyZ_lt j
  generalize keyZ i = x at *
  generalize keyZ j = y at *
  have CB := base_E x hx
  have CL := lock_E x k seed hk hs
  have CO := open_other y x k seed hk hy0 hy
  have C1 := hidden_ok x (Chart.E (x * lockR seed)) (Chart.E (lockS seed + lockR seed)) (Chart.comb k (Chart.E (lockS seed))) (Chart.comb_length hk _) hx0 hx (grp_E _) (grp_E _)
  have C2 := hidden_ok y (Chart.E (x * lockR seed)) (Chart.E (lockS seed + lockR seed)) (Chart.comb k (Chart.E (lockS seed))) (Chart.comb_length hk _) hy0 hy (grp_E _) (grp_E _)
  rw [Chart.found_own hx0 hx] at C1
  have hne2 : otherE y x seed ≠ Chart.E (lockS seed) := Chart.found_other hx0 hx hy0 hy hxy (dscalar_pos _ _) (dscalar_lt _ _) _
  rw [show Chart.found y (Chart.E (x * lockR seed)) (Chart.E (lockS seed + lockR seed)) = otherE y x seed from rfl] at C2
  change ∀ w, Calls Tryd.prog 21 #[.int .i64 x, .agg (capE x k seed).toArray] w _ at C1
  change ∀ w, Calls Tryd.prog 21 #[.int .i64 y, .agg (capE x k seed).toArray] w _ at C2
  generalize otherE y x seed = o at *
  have hcm := Chart.comb_other hk (Chart.E (lockS seed)) o
  have hxl := Chart.comb_length (Chart.comb_length hk (Chart.E (lockS seed))) o
  have CM1 := rmask_any (Chart.E (lockS seed))
  have CM2 := rmask_any o
  generalize Chart.E (lockS seed) = e at *
  have EK1 := run_eqlKey (Chart.comb (Chart.comb k e) o) k hxl hk
  have EK2 := run_eqlKey (Chart.maskOf e) (Chart.maskOf o) (Chart.maskOf_length _) (Chart.maskOf_length _)
  have hbb : (Chart.comb (Chart.comb k e) o == k) = (Chart.maskOf e == Chart.maskOf o) := by
    rw [Bool.eq_iff_iff, beq_iff_eq, beq_iff_eq]; exact hcm
  rw [hbb] at EK1
  generalize (Chart.maskOf e == Chart.maskOf o) = bb at *
  have hne3 : (e : Int) ≠ (o : Int) := fun h => hne2 (Int.ofNat.inj h).symm
  have hne4 : (x : Int) ≠ (y : Int) := fun h => hxy (Int.ofNat.inj h)
  obtain ⟨a, ha⟩ : ∃ a, a = k.map u8v := ⟨_, rfl⟩
  have hal : a.length = 32 := by rw [ha]; rw [List.length_map, hk]
  have ha1 : ∀ x ∈ a, x.oneCell' = true := by rw [ha]; exact oneCell_bytes _
  obtain ⟨b, hb⟩ : ∃ a, a = seed.map u8v := ⟨_, rfl⟩
  have hbl : b.length = 32 := by rw [hb]; rw [List.length_map, hs]
  have hb1 : ∀ x ∈ b, x.oneCell' = true := by rw [hb]; exact oneCell_bytes _
  obtain ⟨c, hc⟩ : ∃ a, a = capE x k seed := ⟨_, rfl⟩
  have hcl : c.length = 34 := by rw [hc]; exact capE_length _ hk
  have hc1 : ∀ x ∈ c, x.oneCell' = true := by rw [hc]; exact capE_one _ _ _
  obtain ⟨d, hd⟩ : ∃ a, a = bytesV (Chart.comb (Chart.comb k e) o) := ⟨_, rfl⟩
  have hdl : d.length = 32 := by rw [hd]; unfold bytesV; rw [List.length_map, hxl]
  have hd1 : ∀ x ∈ d, x.oneCell' = true := by rw [hd]; exact oneCell_bytes _
  obtain ⟨m1, hm1⟩ : ∃ m, m = bytesV (Chart.maskOf e) := ⟨_, rfl⟩
  obtain ⟨m2, hm2⟩ : ∃ m, m = bytesV (Chart.maskOf o) := ⟨_, rfl⟩
  rw [show (Chart.maskOf e).map u8v = m1 from hm1.symm, show (Chart.maskOf o).map u8v = m2 from hm2.symm] at EK2
  rw [← hm1] at CM1
  rw [← hm2] at CM2
  rw [show (Chart.comb (Chart.comb k e) o).map u8v = d from hd.symm] at EK1
  generalize Chart.E x = yy at *
  rw [← hd] at CO
  rw [← ha] at CL EK1 ⊢
  rw [← hb] at CL ⊢
  rw [← hc] at CL CO C1 C2
  replace K1 := Lib.hid K1
  replace K2 := Lib.hid K2
  replace CB := Lib.hid CB
  replace CL := Lib.hid CL
  replace CO := Lib.hid CO
  replace C1 := Lib.hid C1
  replace C2 := Lib.hid C2
  replace CM1 := Lib.hid CM1
  replace CM2 := Lib.hid CM2
  clear ha hb hc hd hm1 hm2 hx0 hx hy0 hy hxy hne2 hcm hxl hbb
  obtain ⟨b1, hb1⟩ : ∃ x, x = w.alloc (.cells a.toArray 23) := ⟨_, rfl⟩
  obtain ⟨b2, hb2⟩ : ∃ x, x = b1.alloc (.cells b.toArray 23) := ⟨_, rfl⟩
  have s1 : b1.heap.size = w.heap.size + 1 := by rw [hb1]; simp
  have r1 : RowIs b2 (w.heap.size) 23 a := by
    rw [hb2]; refine RowIs.alloc ?_ _
    rw [hb1]; exact RowIs.new w a _
  have r2 : RowIs b2 (w.heap.size + 1) 23 b := by
    rw [hb2, ← s1]; exact RowIs.new b1 b _
  have hB0 : Below w.heap.size w b2 := by rw [hb2, hb1]; exact ((Below.refl _ w).alloc (by first | exact Nat.le_refl _ | (simp; omega) | simp) _).alloc (by first | exact Nat.le_refl _ | (simp; omega) | simp) _
  have F0 := Lib.hid (And.intro hB0 (And.intro (hl.below hB0 hl.numLt hl.startLt) (And.intro r1 r2)))
  clear hB0 hl r1 r2 s1
  go_enter Tryd.func8, Tryd.ntmps8
  go_upto_region 1 with fail
  rw [← hb1, ← hb2]
  clear hb1 hb2
  go_wp2_with fail
  refine (sane_ok b2 F0.out.2.1).mono ?_
  rintro e v1 ⟨rfl, hB1⟩
  have F2 := Lib.hid (And.intro (F0.out.1.trans (hB1.mono F0.out.1.size)) (And.intro (F0.out.2.1.below hB1 (Nat.lt_of_lt_of_le F0.out.2.1.numLt (Nat.le_refl _)) (Nat.lt_of_lt_of_le F0.out.2.1.startLt (Nat.le_refl _))) (And.intro (F0.out.2.2.1.below hB1 F0.out.2.2.1.lt) (F0.out.2.2.2.below hB1 F0.out.2.2.2.lt))))
  clear hB1
  go_wp2_with fail
  refine (K1.out v1).mono ?_
  rintro e v3 ⟨rfl, rfl⟩
  go_wp2_with fail
  refine (K2.out v1).mono ?_
  rintro e v4 ⟨rfl, rfl⟩
  go_wp2_with fail
  refine (CB.out v1).mono ?_
  rintro e v5 ⟨rfl, hB5⟩
  have F6 := Lib.hid (And.intro (F2.out.1.trans (hB5.mono F2.out.1.size)) (And.intro (F2.out.2.1.below hB5 (Nat.lt_of_lt_of_le F2.out.2.1.numLt (Nat.le_refl _)) (Nat.lt_of_lt_of_le F2.out.2.1.startLt (Nat.le_refl _))) (And.intro (F2.out.2.2.1.below hB5 F2.out.2.2.1.lt) (F2.out.2.2.2.below hB5 F2.out.2.2.2.lt))))
  clear hB5
  have L7 := F6.out.2.2.1.loads (P := Tryd.prog) 32 hal
  have L8 := F6.out.2.2.2.loads (P := Tryd.prog) 32 hbl
  go_wp2_with fail
  refine (CL.out v5 F6.out.2.1).mono ?_
  rintro e v9 ⟨rfl, hB9⟩
  have F10 := Lib.hid (And.intro (F6.out.1.trans (hB9.mono F6.out.1.size)) (And.intro (F6.out.2.1.below hB9 (Nat.lt_of_lt_of_le F6.out.2.1.numLt (Nat.le_refl _)) (Nat.lt_of_lt_of_le F6.out.2.1.startLt (Nat.le_refl _))) (And.intro (F6.out.2.2.1.below hB9 F6.out.2.2.1.lt) (F6.out.2.2.2.below hB9 F6.out.2.2.2.lt))))
  clear hB9
  obtain ⟨v11, S11, hR11, hB11⟩ := fresh_store (P := Tryd.prog) v9 25 #[.int .i64 0, .int .i64 0, .int .u8 0, .int .u8 0, .int .u8 0, .int .u8 0, .int .u8 0, .int .u8 0, .int .u8 0, .int .u8 0, .int .u8 0, .int .u8 0, .int .u8 0, .int .u8 0, .int .u8 0, .int .u8 0, .int .u8 0, .int .u8 0, .int .u8 0, .int .u8 0, .int .u8 0, .int .u8 0, .int .u8 0, .int .u8 0, .int .u8 0, .int .u8 0, .int .u8 0, .int .u8 0, .int .u8 0, .int .u8 0, .int .u8 0, .int .u8 0, .int .u8 0, .int .u8 0] c (by rw [hcl]; rfl) hc1
  have F12 := Lib.hid (And.intro (F10.out.1.trans (hB11.mono F10.out.1.size)) (And.intro (F10.out.2.1.below hB11 (Nat.lt_of_lt_of_le F10.out.2.1.numLt (Nat.le_refl _)) (Nat.lt_of_lt_of_le F10.out.2.1.startLt (Nat.le_refl _))) (And.intro (F10.out.2.2.1.below hB11 F10.out.2.2.1.lt) (And.intro (F10.out.2.2.2.below hB11 F10.out.2.2.2.lt) hR11))))
  clear hR11 hB11
  clear L7
  clear L8
  have L13 := F12.out.2.2.2.2.loads (P := Tryd.prog) 34 hcl
  go_wp2_with fail
  clear S11
  refine (CO.out v11 F12.out.2.1).mono ?_
  rintro e v14 ⟨rfl, hB14⟩
  have F15 := Lib.hid (And.intro (F12.out.1.trans (hB14.mono F12.out.1.size)) (And.intro (F12.out.2.1.below hB14 (Nat.lt_of_lt_of_le F12.out.2.1.numLt (Nat.le_refl _)) (Nat.lt_of_lt_of_le F12.out.2.1.startLt (Nat.le_refl _))) (And.intro (F12.out.2.2.1.below hB14 F12.out.2.2.1.lt) (And.intro (F12.out.2.2.2.1.below hB14 F12.out.2.2.2.1.lt) (F12.out.2.2.2.2.below hB14 F12.out.2.2.2.2.lt)))))
  clear hB14
  obtain ⟨v16, S16, hR16, hB16⟩ := fresh_store (P := Tryd.prog) v14 23 #[.int .u8 0, .int .u8 0, .int .u8 0, .int .u8 0, .int .u8 0, .int .u8 0, .int .u8 0, .int .u8 0, .int .u8 0, .int .u8 0, .int .u8 0, .int .u8 0, .int .u8 0, .int .u8 0, .int .u8 0, .int .u8 0, .int .u8 0, .int .u8 0, .int .u8 0, .int .u8 0, .int .u8 0, .int .u8 0, .int .u8 0, .int .u8 0, .int .u8 0, .int .u8 0, .int .u8 0, .int .u8 0, .int .u8 0, .int .u8 0, .int .u8 0, .int .u8 0] d (by rw [hdl]; rfl) hd1
  have F17 := Lib.hid (And.intro (F15.out.1.trans (hB16.mono F15.out.1.size)) (And.intro (F15.out.2.1.below hB16 (Nat.lt_of_lt_of_le F15.out.2.1.numLt (Nat.le_refl _)) (Nat.lt_of_lt_of_le F15.out.2.1.startLt (Nat.le_refl _))) (And.intro (F15.out.2.2.1.below hB16 F15.out.2.2.1.lt) (And.intro (F15.out.2.2.2.1.below hB16 F15.out.2.2.2.1.lt) (And.intro (F15.out.2.2.2.2.below hB16 F15.out.2.2.2.2.lt) hR16)))))
  clear hR16 hB16
  clear L13
  have L18 := F17.out.2.2.2.2.1.loads (P := Tryd.prog) 34 hcl
  go_wp2_with fail
  clear S16
  refine (C1.out v16).mono ?_
  rintro e v19 ⟨rfl, hB19⟩
  have F20 := Lib.hid (And.intro (F17.out.1.trans (hB19.mono F17.out.1.size)) (And.intro (F17.out.2.1.below hB19 (Nat.lt_of_lt_of_le F17.out.2.1.numLt (Nat.le_refl _)) (Nat.lt_of_lt_of_le F17.out.2.1.startLt (Nat.le_refl _))) (And.intro (F17.out.2.2.1.below hB19 F17.out.2.2.1.lt) (And.intro (F17.out.2.2.2.1.below hB19 F17.out.2.2.2.1.lt) (And.intro (F17.out.2.2.2.2.1.below hB19 F17.out.2.2.2.2.1.lt) (F17.out.2.2.2.2.2.below hB19 F17.out.2.2.2.2.2.lt))))))
  clear hB19
  clear L18
  have L21 := F20.out.2.2.2.2.1.loads (P := Tryd.prog) 34 hcl
  go_wp2_with fail
  refine (C2.out v19).mono ?_
  rintro e v22 ⟨rfl, hB22⟩
  have F23 := Lib.hid (And.intro (F20.out.1.trans (hB22.mono F20.out.1.size)) (And.intro (F20.out.2.1.below hB22 (Nat.lt_of_lt_of_le F20.out.2.1.numLt (Nat.le_refl _)) (Nat.lt_of_lt_of_le F20.out.2.1.startLt (Nat.le_refl _))) (And.intro (F20.out.2.2.1.below hB22 F20.out.2.2.1.lt) (And.intro (F20.out.2.2.2.1.below hB22 F20.out.2.2.2.1.lt) (And.intro (F20.out.2.2.2.2.1.below hB22 F20.out.2.2.2.2.1.lt) (F20.out.2.2.2.2.2.below hB22 F20.out.2.2.2.2.2.lt))))))
  clear hB22
  clear L21
  go_upto_region 13 with fail
  have qz : RowIs v22.drew v14.heap.size 23 d := F23.out.2.2.2.2.2
  have qk : RowIs v22.drew w.heap.size 23 a := F23.out.2.2.1
  have qB := F23.out.1.trans ((drew_below v22).mono F23.out.1.size)
  have LZ := qz.loads (P := Tryd.prog) 32 hdl
  have LK := qk.loads (P := Tryd.prog) 32 hal
  go_region_with
    (first
      | (go_at_call 22
         refine (CM1.out _).mono ?_
         rintro e wq ⟨rfl, hBq⟩
         have qz' := row_below (g := v14.heap.size) (t := 23) (cs := d) hBq (by assumption)
         have qk' := row_below (g := w.heap.size) (t := 23) (cs := a) hBq (by assumption)
         have qB' : Below w.heap.size w wq := below_on (by assumption) hBq
         have LZ' := qz'.loads (P := Tryd.prog) 32 hdl
         have LK' := qk'.loads (P := Tryd.prog) 32 hal
         clear hBq)
      | (go_at_call 22
         refine (CM2.out _).mono ?_
         rintro e wq ⟨rfl, hBq⟩
         have qz' := row_below (g := v14.heap.size) (t := 23) (cs := d) hBq (by assumption)
         have qk' := row_below (g := w.heap.size) (t := 23) (cs := a) hBq (by assumption)
         have qB' : Below w.heap.size w wq := below_on (by assumption) hBq
         have LZ' := qz'.loads (P := Tryd.prog) 32 hdl
         have LK' := qk'.loads (P := Tryd.prog) 32 hal
         clear hBq))
  all_goals
    go_wp2_with fail
    go_ret
    exact ⟨rfl, qB'⟩

theorem other_walk (i j : Int) (k seed : List UInt8) (hk : k.length = 32) (hs : seed.length = 32) (w : World) (hl : Laid w) :
    Calls Tryd.prog 8 #[.int .i64 i, .int .i64 j, .agg (k.map u8v).toArray, .agg (seed.map u8v).toArray] w fun e w' => e = .returned (.bool true) ∧ Below w.heap.size w w' := by
  by_cases h : keyZ i = keyZ j
  · exact other_same i j k seed hk hs w hl h
  · exact other_diff i j k seed hk hs w hl h
end Go.Proofs.YtejjincnghmbbaaDoor
