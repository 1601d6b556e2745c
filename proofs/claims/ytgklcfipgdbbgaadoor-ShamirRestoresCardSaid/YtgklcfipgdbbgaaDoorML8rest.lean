/- chartroomlaw08.ShamirRestores, walked. -/
import Derived.Test.YtgklcfipgdbbgaaDoorMSpF
namespace Go.Proofs.YtgklcfipgdbbgaaDoor
open Go.RowKit
attribute [-go_sem] Builtin.append_

theorem chosen_any (l : Chart.Sh) (take : List Bool) (h1 : 1 ≤ l.length) (h2 : l.length ≤ 64) (v x : Value) (w : World) (hS : Sv w.heap.size w v (Chart.raw l)) (hT : Bv w.heap.size w x take) :
    Calls Tryd.prog 17 #[v, x] w fun e w' => ∃ u, e = .returned u ∧ OwnS w.heap.size w' u (Chart.raw (choN l take l.length)) ∧ Below w.heap.size w w' := by
  obtain ⟨a, cap, rfl, -, hx⟩ := hS.shape
  obtain ⟨g, off, rfl, hg, hS⟩ := hx (by intro h0; have := congrArg List.length h0; rw [Chart.raw_length] at this; simp at this; rw [this] at h1; simp at h1)
  rw [Chart.raw_length]
  exact chosen_at l take g off cap h1 h2 x w hS hg hT

set_option maxRecDepth 20000 in
set_option maxHeartbeats 4000000 in
theorem srest_early (x need many : Int) (k : List UInt8) (v4 : Value) (take : List Bool) (w : World) (hk : k.length = 32) (_ : Bv w.heap.size w v4 take) (hl : Laid w) (m1 : 12 < many) (m2 : many ≤ 64) :
    Calls Tryd.prog 4 #[.int .i64 x, .int .i64 need, .int .i64 many, .agg (k.map u8v).toArray, v4] w fun e w' => e = .returned (.bool true) ∧ Below w.heap.size w w' := by
  obtain ⟨d, hd⟩ : ∃ d, d = k.map u8v := ⟨_, rfl⟩
  rw [← hd]
  have hdl : d.length = 32 := by rw [hd, List.length_map, hk]
  obtain ⟨w1, hw1⟩ : ∃ w1, w1 = w.alloc (.cells d.toArray 33) := ⟨_, rfl⟩
  have hB1 : Below w.heap.size w w1 := by rw [hw1]; exact (Below.refl _ _).alloc (Nat.le_refl _) _
  have hR1 : RowIs w1 w.heap.size 33 d := by rw [hw1]; exact RowIs.new w d _
  have F1 := Lib.hid (And.intro hB1 (And.intro (hl.below hB1 hl.numLt hl.startLt) hR1))
  clear hd hdl
  clear hB1 hR1 hl
  go_enter Tryd.func4, Tryd.ntmps4
  go_upto_region 1 with fail
  rw [← hw1]
  clear hw1
  go_wp2_with fail
  refine (sane_ok w1 F1.out.2.1).mono ?_
  rintro e v2 ⟨rfl, hB2⟩
  have F3 := Lib.hid (And.intro (F1.out.1.trans (hB2.mono F1.out.1.size)) (And.intro (F1.out.2.1.below hB2 F1.out.2.1.numLt F1.out.2.1.startLt) (RowIs.below F1.out.2.2 hB2 (RowIs.lt F1.out.2.2))))
  clear hB2
  go_wp2_with fail
  go_ret
  exact ⟨rfl, F3.out.1⟩

set_option maxRecDepth 20000 in
set_option maxHeartbeats 4000000 in
theorem srest_bad (x need many : Int) (k : List UInt8) (v4 : Value) (take : List Bool) (w : World) (hk : k.length = 32) (_ : Bv w.heap.size w v4 take) (hl : Laid w) (m1 : many ≤ 12 ∨ 64 < many) (c : Int) (_ : (c == 0) = false) (c2 : (c != 0) = true)
    (hC : ∀ w, Calls Tryd.prog 16 #[.int .i64 x, .int .i64 need, .int .i64 many, .agg (k.map u8v).toArray] w fun e w' => e = noS c ∧ Below w.heap.size w w') :
    Calls Tryd.prog 4 #[.int .i64 x, .int .i64 need, .int .i64 many, .agg (k.map u8v).toArray, v4] w fun e w' => e = .returned (.bool true) ∧ Below w.heap.size w w' := by
  obtain ⟨d, hd⟩ : ∃ d, d = k.map u8v := ⟨_, rfl⟩
  rw [← hd]
  have hdl : d.length = 32 := by rw [hd, List.length_map, hk]
  obtain ⟨w1, hw1⟩ : ∃ w1, w1 = w.alloc (.cells d.toArray 33) := ⟨_, rfl⟩
  have hB1 : Below w.heap.size w w1 := by rw [hw1]; exact (Below.refl _ _).alloc (Nat.le_refl _) _
  have hR1 : RowIs w1 w.heap.size 33 d := by rw [hw1]; exact RowIs.new w d _
  have F1 := Lib.hid (And.intro hB1 (And.intro (hl.below hB1 hl.numLt hl.startLt) hR1))
  have CS := Lib.hid hC
  rw [← hd] at CS
  clear hd hC
  have hm : ¬ (12 < many ∧ many ≤ 64) := by omega
  have hcase : many ≤ 12 ∨ (12 < many ∧ 64 < many) := by omega
  clear hm m1
  clear hB1 hR1 hl
  go_enter Tryd.func4, Tryd.ntmps4
  go_upto_region 1 with fail
  rw [← hw1]
  clear hw1
  go_wp2_with fail
  refine (sane_ok w1 F1.out.2.1).mono ?_
  rintro e v2 ⟨rfl, hB2⟩
  have F3 := Lib.hid (And.intro (F1.out.1.trans (hB2.mono F1.out.1.size)) (And.intro (F1.out.2.1.below hB2 F1.out.2.1.numLt F1.out.2.1.startLt) (RowIs.below F1.out.2.2 hB2 (RowIs.lt F1.out.2.2))))
  clear hB2
  have L4 := (F3.out.2.2).loads (P := Tryd.prog) 32 hdl
  rcases hcase with m1 | ⟨m1, m2⟩
  all_goals
    go_wp2_with fail
    refine (CS.out v2).mono ?_
    rintro e v5 ⟨rfl, hB5⟩
    have F6 := Lib.hid (And.intro (F3.out.1.trans (hB5.mono F3.out.1.size)) (And.intro (F3.out.2.1.below hB5 F3.out.2.1.numLt F3.out.2.1.startLt) (RowIs.below F3.out.2.2 hB5 (RowIs.lt F3.out.2.2))))
    clear hB5
    go_wp2_with fail
    go_ret
    exact ⟨rfl, F6.out.1⟩

set_option maxRecDepth 20000 in
set_option maxHeartbeats 4000000 in
theorem srest_few (s : Chart.F) (n m : Nat) (h1 : 1 ≤ n) (h2 : n ≤ m) (h3 : m ≤ 12) (k : List UInt8) (v4 : Value) (take : List Bool) (w : World) (hk : k.length = 32) (hT : Bv w.heap.size w v4 take) (hl : Laid w) (hf : (choN (Chart.splitS (coefs s k n) m) take m).length < n) :
    Calls Tryd.prog 4 #[fv s, .int .i64 (n : Nat), .int .i64 (m : Nat), .agg (k.map u8v).toArray, v4] w fun e w' => e = .returned (.bool true) ∧ Below w.heap.size w w' := by
  have m64 : m ≤ 64 := by omega
  have oL := sp_ok s k n m h1 h2 m64
  have jL := sp_join s k n m h1 h2 m64
  have fL := sp_fits s k n m h1 h2 m64
  have lL := Chart.splitS_length (coefs s k n) m
  have lC : (choN (Chart.splitS (coefs s k n) m) take m).length < n := hf
  have lC2 := choN_len (Chart.splitS (coefs s k n) m) take m
  have CS := fun w (hl : Laid w) => split_ok s n m h1 h2 m64 k hk w hl
  have CC := fun w v (hS : Sv w.heap.size w v (Chart.raw (Chart.splitS (coefs s k n) m))) (hT : Bv w.heap.size w v4 take) => chosen_any (Chart.splitS (coefs s k n) m) take (by omega) (by omega) v v4 w hS hT
  rw [lL] at CC
  have hlen : (Chart.raw (Chart.splitS (coefs s k n) m)).length = m := by rw [Chart.raw_length, lL]
  have hlen2 := Chart.raw_length (choN (Chart.splitS (coefs s k n) m) take m)
  generalize choN (Chart.splitS (coefs s k n) m) take m = cho at *
  generalize Chart.splitS (coefs s k n) m = L at *
  have CK := fun v w (h : Sv w.heap.size w v (Chart.raw L)) => scheck_any v (Chart.raw L) w h
  rw [shErr_ok oL] at CK
  have CJ := join_ok L oL
  rw [jL] at CJ
  have CF := fits_ok L oL n h1 (by omega)
  rw [fL] at CF
  obtain ⟨q, hq⟩ : ∃ q, q = cho.length := ⟨_, rfl⟩
  rw [← hq] at lC lC2 hlen2
  obtain ⟨d, hd⟩ : ∃ d, d = k.map u8v := ⟨_, rfl⟩
  rw [← hd]
  have hdl : d.length = 32 := by rw [hd, List.length_map, hk]
  obtain ⟨w1, hw1⟩ : ∃ w1, w1 = w.alloc (.cells d.toArray 33) := ⟨_, rfl⟩
  have hB1 : Below w.heap.size w w1 := by rw [hw1]; exact (Below.refl _ _).alloc (Nat.le_refl _) _
  have hR1 : RowIs w1 w.heap.size 33 d := by rw [hw1]; exact RowIs.new w d _
  have F1 := Lib.hid (And.intro hB1 (And.intro (hl.below hB1 hl.numLt hl.startLt) (And.intro hR1 (Vw.mono (Bv.below hT hB1) hB1.size))))
  rw [← hd] at CS
  replace CS := Lib.hid CS
  replace CC := Lib.hid CC
  replace CK := Lib.hid CK
  replace CJ := Lib.hid CJ
  replace CF := Lib.hid CF
  have HL := Lib.hid (And.intro hlen hlen2)
  have b1 : (m : Int) ≤ 12 := by omega
  have b2 : ¬ (n : Int) < 1 := by omega
  obtain ⟨y, hy⟩ : ∃ y : Int, y = (s.val : Int) := ⟨_, rfl⟩
  have Hy := Lib.hid hy
  have b3 : (q : Int) < (n : Int) := by omega
  clear hd hT oL jL fL lL  lC lC2 hlen hlen2 hq hy h1 h2 h3 m64 hf
  clear hB1 hR1 hl
  go_enter Tryd.func4, Tryd.ntmps4
  go_upto_region 1 with fail
  rw [← hw1]
  clear hw1
  go_wp2_with fail
  refine (sane_ok w1 F1.out.2.1).mono ?_
  rintro e v2 ⟨rfl, hB2⟩
  have F3 := Lib.hid (And.intro (F1.out.1.trans (hB2.mono F1.out.1.size)) (And.intro (F1.out.2.1.below hB2 F1.out.2.1.numLt F1.out.2.1.startLt) (And.intro (RowIs.below F1.out.2.2.1 hB2 (RowIs.lt F1.out.2.2.1)) (Vw.mono (Bv.below F1.out.2.2.2 hB2) hB2.size))))
  clear hB2
  have L4 := (F3.out.2.2.1).loads (P := Tryd.prog) 32 hdl
  go_wp2_with fail
  refine (CS.out v2 F3.out.2.1).mono ?_
  rintro e v5 ⟨u, rfl, hO, hB5⟩
  have F6 := Lib.hid (And.intro (F3.out.1.trans (hB5.mono F3.out.1.size)) (And.intro (F3.out.2.1.below hB5 F3.out.2.1.numLt F3.out.2.1.startLt) (And.intro (RowIs.below F3.out.2.2.1 hB5 (RowIs.lt F3.out.2.2.1)) (And.intro (Vw.mono (Bv.below F3.out.2.2.2 hB5) hB5.size) hO.view))))
  clear hB5
  clear hO L4
  obtain ⟨au, cu, hu, -, -⟩ := (F6.out.2.2.2.2).shape
  rw [HL.out.1] at hu
  subst hu
  go_wp2_with fail
  refine (CC.out v5 _ F6.out.2.2.2.2 F6.out.2.2.2.1).mono ?_
  rintro e v7 ⟨uc, rfl, hO, hB7⟩
  have F8 := Lib.hid (And.intro (F6.out.1.trans (hB7.mono F6.out.1.size)) (And.intro (F6.out.2.1.below hB7 F6.out.2.1.numLt F6.out.2.1.startLt) (And.intro (RowIs.below F6.out.2.2.1 hB7 (RowIs.lt F6.out.2.2.1)) (And.intro (Vw.mono (Bv.below F6.out.2.2.2.1 hB7) hB7.size) (And.intro ((Sv.below F6.out.2.2.2.2 hB7).mono hB7.size) hO.view)))))
  clear hB7
  clear hO
  obtain ⟨ac, cc, hu, -, -⟩ := (F8.out.2.2.2.2.2).shape
  rw [HL.out.2] at hu
  subst hu
  go_wp2_with fail
  refine (CK.out _ v7 F8.out.2.2.2.2.1).mono ?_
  rintro e v9 ⟨rfl, hB9⟩
  have F10 := Lib.hid (And.intro (F8.out.1.trans (hB9.mono F8.out.1.size)) (And.intro (F8.out.2.1.below hB9 F8.out.2.1.numLt F8.out.2.1.startLt) (And.intro (RowIs.below F8.out.2.2.1 hB9 (RowIs.lt F8.out.2.2.1)) (And.intro (Vw.mono (Bv.below F8.out.2.2.2.1 hB9) hB9.size) (And.intro ((Sv.below F8.out.2.2.2.2.1 hB9).mono hB9.size) ((Sv.below F8.out.2.2.2.2.2 hB9).mono hB9.size))))))
  clear hB9
  go_wp2_with fail
  refine (CJ.out _ v9 F10.out.2.2.2.2.1).mono ?_
  rintro e v11 ⟨rfl, hB11⟩
  have F12 := Lib.hid (And.intro (F10.out.1.trans (hB11.mono F10.out.1.size)) (And.intro (F10.out.2.1.below hB11 F10.out.2.1.numLt F10.out.2.1.startLt) (And.intro (RowIs.below F10.out.2.2.1 hB11 (RowIs.lt F10.out.2.2.1)) (And.intro (Vw.mono (Bv.below F10.out.2.2.2.1 hB11) hB11.size) (And.intro ((Sv.below F10.out.2.2.2.2.1 hB11).mono hB11.size) ((Sv.below F10.out.2.2.2.2.2 hB11).mono hB11.size))))))
  clear hB11
  go_wp2_with fail
  refine (CF.out _ v11 F12.out.2.2.2.2.1).mono ?_
  rintro e v13 ⟨rfl, hB13⟩
  have F14 := Lib.hid (And.intro (F12.out.1.trans (hB13.mono F12.out.1.size)) (And.intro (F12.out.2.1.below hB13 F12.out.2.1.numLt F12.out.2.1.startLt) (And.intro (RowIs.below F12.out.2.2.1 hB13 (RowIs.lt F12.out.2.2.1)) (And.intro (Vw.mono (Bv.below F12.out.2.2.2.1 hB13) hB13.size) (And.intro ((Sv.below F12.out.2.2.2.2.1 hB13).mono hB13.size) ((Sv.below F12.out.2.2.2.2.2 hB13).mono hB13.size))))))
  clear hB13
  go_wp2_with fail
  go_ret
  exact ⟨by first | rfl | simp, F14.out.1⟩

set_option maxRecDepth 20000 in
set_option maxHeartbeats 4000000 in
theorem srest_all (s : Chart.F) (n m : Nat) (h1 : 1 ≤ n) (h2 : n ≤ m) (h3 : m ≤ 12) (k : List UInt8) (v4 : Value) (take : List Bool) (w : World) (hk : k.length = 32) (hT : Bv w.heap.size w v4 take) (hl : Laid w) (hf : n ≤ (choN (Chart.splitS (coefs s k n) m) take m).length) :
    Calls Tryd.prog 4 #[fv s, .int .i64 (n : Nat), .int .i64 (m : Nat), .agg (k.map u8v).toArray, v4] w fun e w' => e = .returned (.bool true) ∧ Below w.heap.size w w' := by
  have m64 : m ≤ 64 := by omega
  have oL := sp_ok s k n m h1 h2 m64
  have jL := sp_join s k n m h1 h2 m64
  have fL := sp_fits s k n m h1 h2 m64
  have lL := Chart.splitS_length (coefs s k n) m
  have oC := cho_ok s k n m h1 h2 m64 take hf
  have jC := cho_join s k n m h1 h2 m64 take hf
  have fC := cho_fits s k n m h1 h2 m64 take hf
  have lC : n ≤ (choN (Chart.splitS (coefs s k n) m) take m).length := hf
  have lC2 := choN_len (Chart.splitS (coefs s k n) m) take m
  have CS := fun w (hl : Laid w) => split_ok s n m h1 h2 m64 k hk w hl
  have CC := fun w v (hS : Sv w.heap.size w v (Chart.raw (Chart.splitS (coefs s k n) m))) (hT : Bv w.heap.size w v4 take) => chosen_any (Chart.splitS (coefs s k n) m) take (by omega) (by omega) v v4 w hS hT
  rw [lL] at CC
  have hlen : (Chart.raw (Chart.splitS (coefs s k n) m)).length = m := by rw [Chart.raw_length, lL]
  have hlen2 := Chart.raw_length (choN (Chart.splitS (coefs s k n) m) take m)
  generalize choN (Chart.splitS (coefs s k n) m) take m = cho at *
  generalize Chart.splitS (coefs s k n) m = L at *
  have CK := fun v w (h : Sv w.heap.size w v (Chart.raw L)) => scheck_any v (Chart.raw L) w h
  rw [shErr_ok oL] at CK
  have CJ := join_ok L oL
  rw [jL] at CJ
  have CF := fits_ok L oL n h1 (by omega)
  rw [fL] at CF
  have DJ := join_ok cho oC
  rw [jC] at DJ
  have DF := fits_ok cho oC n h1 (by omega)
  rw [fC] at DF
  obtain ⟨q, hq⟩ : ∃ q, q = cho.length := ⟨_, rfl⟩
  rw [← hq] at lC lC2 hlen2
  obtain ⟨d, hd⟩ : ∃ d, d = k.map u8v := ⟨_, rfl⟩
  rw [← hd]
  have hdl : d.length = 32 := by rw [hd, List.length_map, hk]
  obtain ⟨w1, hw1⟩ : ∃ w1, w1 = w.alloc (.cells d.toArray 33) := ⟨_, rfl⟩
  have hB1 : Below w.heap.size w w1 := by rw [hw1]; exact (Below.refl _ _).alloc (Nat.le_refl _) _
  have hR1 : RowIs w1 w.heap.size 33 d := by rw [hw1]; exact RowIs.new w d _
  have F1 := Lib.hid (And.intro hB1 (And.intro (hl.below hB1 hl.numLt hl.startLt) (And.intro hR1 (Vw.mono (Bv.below hT hB1) hB1.size))))
  rw [← hd] at CS
  replace CS := Lib.hid CS
  replace CC := Lib.hid CC
  replace CK := Lib.hid CK
  replace CJ := Lib.hid CJ
  replace CF := Lib.hid CF
  replace DJ := Lib.hid DJ
  replace DF := Lib.hid DF
  have HL := Lib.hid (And.intro hlen hlen2)
  have b1 : (m : Int) ≤ 12 := by omega
  have b2 : ¬ (n : Int) < 1 := by omega
  obtain ⟨y, hy⟩ : ∃ y : Int, y = (s.val : Int) := ⟨_, rfl⟩
  have Hy := Lib.hid hy
  have b3 : ¬ (q : Int) < (n : Int) := by omega
  clear hd hT oL jL fL lL oC jC fC lC lC2 hlen hlen2 hq hy h1 h2 h3 m64 hf
  clear hB1 hR1 hl
  go_enter Tryd.func4, Tryd.ntmps4
  go_upto_region 1 with fail
  rw [← hw1]
  clear hw1
  go_wp2_with fail
  refine (sane_ok w1 F1.out.2.1).mono ?_
  rintro e v2 ⟨rfl, hB2⟩
  have F3 := Lib.hid (And.intro (F1.out.1.trans (hB2.mono F1.out.1.size)) (And.intro (F1.out.2.1.below hB2 F1.out.2.1.numLt F1.out.2.1.startLt) (And.intro (RowIs.below F1.out.2.2.1 hB2 (RowIs.lt F1.out.2.2.1)) (Vw.mono (Bv.below F1.out.2.2.2 hB2) hB2.size))))
  clear hB2
  have L4 := (F3.out.2.2.1).loads (P := Tryd.prog) 32 hdl
  go_wp2_with fail
  refine (CS.out v2 F3.out.2.1).mono ?_
  rintro e v5 ⟨u, rfl, hO, hB5⟩
  have F6 := Lib.hid (And.intro (F3.out.1.trans (hB5.mono F3.out.1.size)) (And.intro (F3.out.2.1.below hB5 F3.out.2.1.numLt F3.out.2.1.startLt) (And.intro (RowIs.below F3.out.2.2.1 hB5 (RowIs.lt F3.out.2.2.1)) (And.intro (Vw.mono (Bv.below F3.out.2.2.2 hB5) hB5.size) hO.view))))
  clear hB5
  clear hO L4
  obtain ⟨au, cu, hu, -, -⟩ := (F6.out.2.2.2.2).shape
  rw [HL.out.1] at hu
  subst hu
  go_wp2_with fail
  refine (CC.out v5 _ F6.out.2.2.2.2 F6.out.2.2.2.1).mono ?_
  rintro e v7 ⟨uc, rfl, hO, hB7⟩
  have F8 := Lib.hid (And.intro (F6.out.1.trans (hB7.mono F6.out.1.size)) (And.intro (F6.out.2.1.below hB7 F6.out.2.1.numLt F6.out.2.1.startLt) (And.intro (RowIs.below F6.out.2.2.1 hB7 (RowIs.lt F6.out.2.2.1)) (And.intro (Vw.mono (Bv.below F6.out.2.2.2.1 hB7) hB7.size) (And.intro ((Sv.below F6.out.2.2.2.2 hB7).mono hB7.size) hO.view)))))
  clear hB7
  clear hO
  obtain ⟨ac, cc, hu, -, -⟩ := (F8.out.2.2.2.2.2).shape
  rw [HL.out.2] at hu
  subst hu
  go_wp2_with fail
  refine (CK.out _ v7 F8.out.2.2.2.2.1).mono ?_
  rintro e v9 ⟨rfl, hB9⟩
  have F10 := Lib.hid (And.intro (F8.out.1.trans (hB9.mono F8.out.1.size)) (And.intro (F8.out.2.1.below hB9 F8.out.2.1.numLt F8.out.2.1.startLt) (And.intro (RowIs.below F8.out.2.2.1 hB9 (RowIs.lt F8.out.2.2.1)) (And.intro (Vw.mono (Bv.below F8.out.2.2.2.1 hB9) hB9.size) (And.intro ((Sv.below F8.out.2.2.2.2.1 hB9).mono hB9.size) ((Sv.below F8.out.2.2.2.2.2 hB9).mono hB9.size))))))
  clear hB9
  go_wp2_with fail
  refine (CJ.out _ v9 F10.out.2.2.2.2.1).mono ?_
  rintro e v11 ⟨rfl, hB11⟩
  have F12 := Lib.hid (And.intro (F10.out.1.trans (hB11.mono F10.out.1.size)) (And.intro (F10.out.2.1.below hB11 F10.out.2.1.numLt F10.out.2.1.startLt) (And.intro (RowIs.below F10.out.2.2.1 hB11 (RowIs.lt F10.out.2.2.1)) (And.intro (Vw.mono (Bv.below F10.out.2.2.2.1 hB11) hB11.size) (And.intro ((Sv.below F10.out.2.2.2.2.1 hB11).mono hB11.size) ((Sv.below F10.out.2.2.2.2.2 hB11).mono hB11.size))))))
  clear hB11
  go_wp2_with fail
  refine (CF.out _ v11 F12.out.2.2.2.2.1).mono ?_
  rintro e v13 ⟨rfl, hB13⟩
  have F14 := Lib.hid (And.intro (F12.out.1.trans (hB13.mono F12.out.1.size)) (And.intro (F12.out.2.1.below hB13 F12.out.2.1.numLt F12.out.2.1.startLt) (And.intro (RowIs.below F12.out.2.2.1 hB13 (RowIs.lt F12.out.2.2.1)) (And.intro (Vw.mono (Bv.below F12.out.2.2.2.1 hB13) hB13.size) (And.intro ((Sv.below F12.out.2.2.2.2.1 hB13).mono hB13.size) ((Sv.below F12.out.2.2.2.2.2 hB13).mono hB13.size))))))
  clear hB13
  go_wp2_with fail
  refine (DJ.out _ v13 F14.out.2.2.2.2.2).mono ?_
  rintro e v15 ⟨rfl, hB15⟩
  have F16 := Lib.hid (And.intro (F14.out.1.trans (hB15.mono F14.out.1.size)) (And.intro (F14.out.2.1.below hB15 F14.out.2.1.numLt F14.out.2.1.startLt) (And.intro (RowIs.below F14.out.2.2.1 hB15 (RowIs.lt F14.out.2.2.1)) (And.intro (Vw.mono (Bv.below F14.out.2.2.2.1 hB15) hB15.size) (And.intro ((Sv.below F14.out.2.2.2.2.1 hB15).mono hB15.size) ((Sv.below F14.out.2.2.2.2.2 hB15).mono hB15.size))))))
  clear hB15
  go_wp2_with fail
  refine (DF.out _ v15 F16.out.2.2.2.2.2).mono ?_
  rintro e v17 ⟨rfl, hB17⟩
  have F18 := Lib.hid (And.intro (F16.out.1.trans (hB17.mono F16.out.1.size)) (And.intro (F16.out.2.1.below hB17 F16.out.2.1.numLt F16.out.2.1.startLt) (And.intro (RowIs.below F16.out.2.2.1 hB17 (RowIs.lt F16.out.2.2.1)) (And.intro (Vw.mono (Bv.below F16.out.2.2.2.1 hB17) hB17.size) (And.intro ((Sv.below F16.out.2.2.2.2.1 hB17).mono hB17.size) ((Sv.below F16.out.2.2.2.2.2 hB17).mono hB17.size))))))
  clear hB17
  go_wp2_with fail
  go_ret
  exact ⟨by first | rfl | simp, F18.out.1⟩

theorem srest_walk (x need many : Int) (k : List UInt8) (v4 : Value) (take : List Bool) (w : World) (hk : k.length = 32) (hT : Bv w.heap.size w v4 take) (_ : take.length ≤ maxLen) (hl : Laid w) :
    Calls Tryd.prog 4 #[.int .i64 x, .int .i64 need, .int .i64 many, .agg (k.map u8v).toArray, v4] w fun e w' => e = .returned (.bool true) ∧ Below w.heap.size w w' := by
  by_cases hm : 12 < many ∧ many ≤ 64
  · exact srest_early x need many k v4 take w hk hT hl hm.1 hm.2
  cases ho : outB x
  · by_cases hb : need < 1 ∨ many < need ∨ 64 < many
    · exact srest_bad x need many k v4 take w hk hT hl (by omega) 80 rfl rfl (fun w => split_bad x need many ho hb k w)
    · obtain ⟨h0, h1⟩ := outB_false ho
      obtain ⟨y, rfl⟩ := Int.eq_ofNat_of_zero_le h0
      obtain ⟨n, rfl⟩ := Int.eq_ofNat_of_zero_le (show 0 ≤ need by omega)
      obtain ⟨m, rfl⟩ := Int.eq_ofNat_of_zero_le (show 0 ≤ many by omega)
      have hy : y < Chart.Q := by rw [Q_eq]; omega
      have e : ((y : Nat) : Int) = ((Chart.fx y).val : Int) := by rw [Chart.fx_val hy]
      show Calls _ _ #[.int .i64 ((y : Nat) : Int), _, _, _, _] _ _
      rw [e]
      by_cases hf : (choN (Chart.splitS (coefs (Chart.fx y) k n) m) take m).length < n
      · exact srest_few (Chart.fx y) n m (by omega) (by omega) (by omega) k v4 take w hk hT hl hf
      · exact srest_all (Chart.fx y) n m (by omega) (by omega) (by omega) k v4 take w hk hT hl (by omega)
  · exact srest_bad x need many k v4 take w hk hT hl (by omega) 1 rfl rfl (fun w => split_arg x need many ho k w)

end Go.Proofs.YtgklcfipgdbbgaaDoor
