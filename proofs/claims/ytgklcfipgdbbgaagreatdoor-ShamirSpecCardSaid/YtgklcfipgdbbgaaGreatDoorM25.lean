/- chartroomlaw08.sane: the chapter's examples hold. -/
import Derived.Test.YtgklcfipgdbbgaaGreatDoorM24
namespace Go.Proofs.YtgklcfipgdbbgaaGreatDoor
open Go.RowKit
attribute [-go_sem] Builtin.append_

theorem lit_view {w : World} (l : Chart.Rs) (hl : l.length ≤ 1000) (n : Nat) (hn : l.length = n) (cs : Array Value) (hc : cs = (shC l).toArray) : Sv (w.alloc (.cells cs 36)).heap.size (w.alloc (.cells cs 36)) (.slice (some ⟨w.heap.size, 0, none⟩) n n) l :=
  (OwnS.lit w (Nat.le_refl _) l hl n hn cs hc).view

set_option maxRecDepth 20000 in
set_option maxHeartbeats 4000000 in
theorem sane_ok (w : World) (hl : Laid w) : Calls Tryz.prog 4 #[] w fun e w' => e = .returned (.bool true) ∧ Below w.heap.size w w' := by
  have hb0 := run_key0
  obtain ⟨d, hd⟩ : ∃ d, d = key0.map u8v := ⟨_, rfl⟩
  rw [← hd] at hb0
  obtain ⟨w1, hw1⟩ : ∃ x, w.alloc (.cells #[.int .i64 1, .int .i64 9, .int .i64 2, .int .i64 11] 36) = x := ⟨_, rfl⟩
  have hB1 : Below w.heap.size w w1 := by rw [← hw1]; exact (Below.refl _ _).alloc (Nat.le_refl _) _
  have hS1 : Sv w1.heap.size w1 (.slice (some ⟨w.heap.size, 0, none⟩) 2 2) [(1, 9), (2, 11)] := by rw [← hw1]; exact lit_view _ (by decide) 2 rfl _ rfl
  obtain ⟨u2, w2, u3, w3, E2, E3, hO3, hB3⟩ := append_both hS1 (by decide) 3 13
  have hS3 := (hS1.below hB3).mono hB3.size
  obtain ⟨u4, w4, u5, w5, E4, E5, hO5, hB5⟩ := append_both hS3 (by decide) 3 14
  have S2 : Sv w5.heap.size w5 (.slice (some ⟨w.heap.size, 0, none⟩) 2 2) (Chart.raw Chart.two) := by rw [Chart.raw_two]; exact (hS3.below hB5).mono hB5.size
  have S3 : Sv w5.heap.size w5 u3 (Chart.raw Chart.three) := by rw [Chart.raw_three]; exact (hO3.view.below hB5).mono hB5.size
  have S5 : Sv w5.heap.size w5 u5 (Chart.raw Chart.odd) := by rw [Chart.raw_odd]; exact hO5.view
  have hB05 := hB1.trans ((hB3.trans (hB5.mono hB3.size)).mono hB1.size)
  have F1 := Lib.hid (And.intro hB05 (And.intro (hl.below hB05 hl.numLt hl.startLt) (And.intro S2 (And.intro S3 S5))))
  clear hB05 hB1 hS1 hS3 hO3 hO5 hB3 hB5 S2 S3 S5 hl
  have CS : ∀ w (_ : Laid w), Calls Tryz.prog 6 #[.int .i64 7, .int .i64 1, .int .i64 3, .agg d.toArray] w fun e w' => ∃ u, e = .returned (.tuple #[u, .int .i64 0]) ∧ OwnS w.heap.size w' u [(1, 7), (2, 7), (3, 7)] ∧ Below w.heap.size w w' := by
    intro w hl
    have := split_ok (Chart.fx 7) 1 3 (by decide) (by decide) (by decide) key0 key0_length w hl
    rw [← hd] at this
    rw [← Chart.raw_split7]
    exact this
  have CJ2 := join_ok Chart.two Chart.ok_two
  rw [Chart.join_two] at CJ2
  have CF3 := fits_ok Chart.three Chart.ok_three 2 (by decide) (by decide)
  rw [Chart.fits_three] at CF3
  have CFo := fits_ok Chart.odd Chart.ok_odd 2 (by decide) (by decide)
  rw [Chart.fits_odd] at CFo
  have CSm := sum_ok Chart.two Chart.two Chart.ok_two Chart.ok_two rfl
  rw [Chart.sum_two] at CSm
  have CJd := join_ok Chart.dbl Chart.ok_dbl
  rw [Chart.join_dbl] at CJd
  have CJf := join_ok Chart.far Chart.ok_far
  rw [Chart.join_far, Chart.raw_far] at CJf
  have CA := split_arg (-1) 0 0 (by decide) key0
  have CB := split_bad 0 2 1 (by decide) (by decide) key0
  rw [← hd] at CA CB
  replace CS := Lib.hid CS
  replace CJ2 := Lib.hid CJ2
  replace CF3 := Lib.hid CF3
  replace CFo := Lib.hid CFo
  replace CSm := Lib.hid CSm
  replace CJd := Lib.hid CJd
  replace CJf := Lib.hid CJf
  replace CA := Lib.hid CA
  replace CB := Lib.hid CB
  have Hd := Lib.hid hd
  clear hd
  go_enter Tryz.func4, Tryz.ntmps4
  go_wp2_with fail
  refine (CS.out w5 F1.out.2.1).mono ?_
  rintro e v2 ⟨us, rfl, hOs, hB2⟩
  have F3 := Lib.hid (And.intro (F1.out.1.trans (hB2.mono F1.out.1.size)) (And.intro (F1.out.2.1.below hB2 F1.out.2.1.numLt F1.out.2.1.startLt) (And.intro ((Sv.below F1.out.2.2.1 hB2).mono hB2.size) (And.intro ((Sv.below F1.out.2.2.2.1 hB2).mono hB2.size) (And.intro ((Sv.below F1.out.2.2.2.2 hB2).mono hB2.size) hOs.view)))))
  clear hB2
  clear hOs
  go_wp2_with fail
  refine (CJ2.out _ v2 F3.out.2.2.1).mono ?_
  rintro e v4 ⟨rfl, hB4⟩
  have F5 := Lib.hid (And.intro (F3.out.1.trans (hB4.mono F3.out.1.size)) (And.intro (F3.out.2.1.below hB4 F3.out.2.1.numLt F3.out.2.1.startLt) (And.intro ((Sv.below F3.out.2.2.1 hB4).mono hB4.size) (And.intro ((Sv.below F3.out.2.2.2.1 hB4).mono hB4.size) (And.intro ((Sv.below F3.out.2.2.2.2.1 hB4).mono hB4.size) ((Sv.below F3.out.2.2.2.2.2 hB4).mono hB4.size))))))
  clear hB4
  go_wp2_with fail
  refine (CF3.out _ v4 F5.out.2.2.2.1).mono ?_
  rintro e v6 ⟨rfl, hB6⟩
  have F7 := Lib.hid (And.intro (F5.out.1.trans (hB6.mono F5.out.1.size)) (And.intro (F5.out.2.1.below hB6 F5.out.2.1.numLt F5.out.2.1.startLt) (And.intro ((Sv.below F5.out.2.2.1 hB6).mono hB6.size) (And.intro ((Sv.below F5.out.2.2.2.1 hB6).mono hB6.size) (And.intro ((Sv.below F5.out.2.2.2.2.1 hB6).mono hB6.size) ((Sv.below F5.out.2.2.2.2.2 hB6).mono hB6.size))))))
  clear hB6
  go_wp2_with fail
  refine (CFo.out _ v6 F7.out.2.2.2.2.1).mono ?_
  rintro e v8 ⟨rfl, hB8⟩
  have F9 := Lib.hid (And.intro (F7.out.1.trans (hB8.mono F7.out.1.size)) (And.intro (F7.out.2.1.below hB8 F7.out.2.1.numLt F7.out.2.1.startLt) (And.intro ((Sv.below F7.out.2.2.1 hB8).mono hB8.size) (And.intro ((Sv.below F7.out.2.2.2.1 hB8).mono hB8.size) (And.intro ((Sv.below F7.out.2.2.2.2.1 hB8).mono hB8.size) ((Sv.below F7.out.2.2.2.2.2 hB8).mono hB8.size))))))
  clear hB8
  go_wp2_with fail
  refine (CSm.out _ _ v8 F9.out.2.2.1 F9.out.2.2.1).mono ?_
  rintro e v10 ⟨um, rfl, hOm, hB10⟩
  have F11 := Lib.hid (And.intro (F9.out.1.trans (hB10.mono F9.out.1.size)) (And.intro (F9.out.2.1.below hB10 F9.out.2.1.numLt F9.out.2.1.startLt) (And.intro ((Sv.below F9.out.2.2.1 hB10).mono hB10.size) (And.intro ((Sv.below F9.out.2.2.2.1 hB10).mono hB10.size) (And.intro ((Sv.below F9.out.2.2.2.2.1 hB10).mono hB10.size) (And.intro ((Sv.below F9.out.2.2.2.2.2 hB10).mono hB10.size) hOm.view))))))
  clear hB10
  clear hOm
  go_wp2_with fail
  refine (CJd.out _ v10 F11.out.2.2.2.2.2.2).mono ?_
  rintro e v12 ⟨rfl, hB12⟩
  have F13 := Lib.hid (And.intro (F11.out.1.trans (hB12.mono F11.out.1.size)) (And.intro (F11.out.2.1.below hB12 F11.out.2.1.numLt F11.out.2.1.startLt) (And.intro ((Sv.below F11.out.2.2.1 hB12).mono hB12.size) (And.intro ((Sv.below F11.out.2.2.2.1 hB12).mono hB12.size) (And.intro ((Sv.below F11.out.2.2.2.2.1 hB12).mono hB12.size) (And.intro ((Sv.below F11.out.2.2.2.2.2.1 hB12).mono hB12.size) ((Sv.below F11.out.2.2.2.2.2.2 hB12).mono hB12.size)))))))
  clear hB12
  obtain ⟨wf, hwf⟩ : ∃ x, v12.alloc (.cells #[.int .i64 64, .int .i64 5] 36) = x := ⟨_, rfl⟩
  have hBf : Below v12.heap.size v12 wf := by rw [← hwf]; exact (Below.refl _ _).alloc (Nat.le_refl _) _
  have hSf : Sv wf.heap.size wf (.slice (some ⟨v12.heap.size, 0, none⟩) 1 1) [(64, 5)] := by rw [← hwf]; exact lit_view _ (by decide) 1 rfl _ rfl
  have F14 := Lib.hid (And.intro (F13.out.1.trans (hBf.mono F13.out.1.size)) (And.intro (F13.out.2.1.below hBf F13.out.2.1.numLt F13.out.2.1.startLt) (And.intro ((Sv.below F13.out.2.2.1 hBf).mono hBf.size) (And.intro ((Sv.below F13.out.2.2.2.1 hBf).mono hBf.size) (And.intro ((Sv.below F13.out.2.2.2.2.1 hBf).mono hBf.size) (And.intro ((Sv.below F13.out.2.2.2.2.2.1 hBf).mono hBf.size) (And.intro ((Sv.below F13.out.2.2.2.2.2.2 hBf).mono hBf.size) hSf)))))))
  clear hBf hSf
  go_wp2_with fail
  refine (CJf.out _ wf F14.out.2.2.2.2.2.2.2).mono ?_
  rintro e v15 ⟨rfl, hB15⟩
  have F16 := Lib.hid (And.intro (F14.out.1.trans (hB15.mono F14.out.1.size)) (And.intro (F14.out.2.1.below hB15 F14.out.2.1.numLt F14.out.2.1.startLt) (And.intro ((Sv.below F14.out.2.2.1 hB15).mono hB15.size) (And.intro ((Sv.below F14.out.2.2.2.1 hB15).mono hB15.size) (And.intro ((Sv.below F14.out.2.2.2.2.1 hB15).mono hB15.size) (And.intro ((Sv.below F14.out.2.2.2.2.2.1 hB15).mono hB15.size) (And.intro ((Sv.below F14.out.2.2.2.2.2.2.1 hB15).mono hB15.size) ((Sv.below F14.out.2.2.2.2.2.2.2 hB15).mono hB15.size))))))))
  clear hB15
  go_wp2_with fail
  refine (CA.out v15).mono ?_
  rintro e v17 ⟨rfl, hB17⟩
  have F18 := Lib.hid (And.intro (F16.out.1.trans (hB17.mono F16.out.1.size)) (And.intro (F16.out.2.1.below hB17 F16.out.2.1.numLt F16.out.2.1.startLt) (And.intro ((Sv.below F16.out.2.2.1 hB17).mono hB17.size) (And.intro ((Sv.below F16.out.2.2.2.1 hB17).mono hB17.size) (And.intro ((Sv.below F16.out.2.2.2.2.1 hB17).mono hB17.size) (And.intro ((Sv.below F16.out.2.2.2.2.2.1 hB17).mono hB17.size) (And.intro ((Sv.below F16.out.2.2.2.2.2.2.1 hB17).mono hB17.size) ((Sv.below F16.out.2.2.2.2.2.2.2 hB17).mono hB17.size))))))))
  clear hB17
  go_wp2_with fail
  refine (CB.out v17).mono ?_
  rintro e v19 ⟨rfl, hB19⟩
  have F20 := Lib.hid (And.intro (F18.out.1.trans (hB19.mono F18.out.1.size)) (And.intro (F18.out.2.1.below hB19 F18.out.2.1.numLt F18.out.2.1.startLt) (And.intro ((Sv.below F18.out.2.2.1 hB19).mono hB19.size) (And.intro ((Sv.below F18.out.2.2.2.1 hB19).mono hB19.size) (And.intro ((Sv.below F18.out.2.2.2.2.1 hB19).mono hB19.size) (And.intro ((Sv.below F18.out.2.2.2.2.2.1 hB19).mono hB19.size) (And.intro ((Sv.below F18.out.2.2.2.2.2.2.1 hB19).mono hB19.size) ((Sv.below F18.out.2.2.2.2.2.2.2 hB19).mono hB19.size))))))))
  clear hB19
  go_wp2_with fail
  refine (scheck_out none 0 0 (Or.inl (by decide)) _).mono ?_
  rintro e wc ⟨rfl, rfl⟩
  obtain ⟨wq3, hwq3⟩ : ∃ x, v19.alloc (.cells #[.int .i64 1, .int .i64 7, .int .i64 2, .int .i64 7, .int .i64 3, .int .i64 7] 36) = x := ⟨_, rfl⟩
  have hBq3 : Below v19.heap.size v19 wq3 := by rw [← hwq3]; exact (Below.refl _ _).alloc (Nat.le_refl _) _
  have hSq3 : Sv wq3.heap.size wq3 (.slice (some ⟨v19.heap.size, 0, none⟩) 3 3) [(1, 7), (2, 7), (3, 7)] := by rw [← hwq3]; exact lit_view _ (by decide) 3 rfl _ rfl
  have F21 := Lib.hid (And.intro (F20.out.1.trans (hBq3.mono F20.out.1.size)) (And.intro (F20.out.2.1.below hBq3 F20.out.2.1.numLt F20.out.2.1.startLt) (And.intro ((Sv.below F20.out.2.2.1 hBq3).mono hBq3.size) (And.intro ((Sv.below F20.out.2.2.2.1 hBq3).mono hBq3.size) (And.intro ((Sv.below F20.out.2.2.2.2.1 hBq3).mono hBq3.size) (And.intro ((Sv.below F20.out.2.2.2.2.2.1 hBq3).mono hBq3.size) (And.intro ((Sv.below F20.out.2.2.2.2.2.2.1 hBq3).mono hBq3.size) (And.intro ((Sv.below F20.out.2.2.2.2.2.2.2 hBq3).mono hBq3.size) hSq3))))))))
  clear hBq3 hSq3
  have CE1 := Lib.hid (same_any _ _ (by decide) (by decide) _ _ wq3 F21.out.2.2.2.2.2.1 F21.out.2.2.2.2.2.2.2.2)
  rw [show (([(1, 7), (2, 7), (3, 7)] : Chart.Rs) == [(1, 7), (2, 7), (3, 7)]) = true from by decide] at CE1
  go_wp2_with fail
  refine (CE1.out).mono ?_
  rintro e v22 ⟨rfl, hB22⟩
  have F23 := Lib.hid (And.intro (F21.out.1.trans (hB22.mono F21.out.1.size)) (And.intro (F21.out.2.1.below hB22 F21.out.2.1.numLt F21.out.2.1.startLt) (And.intro ((Sv.below F21.out.2.2.1 hB22).mono hB22.size) (And.intro ((Sv.below F21.out.2.2.2.1 hB22).mono hB22.size) (And.intro ((Sv.below F21.out.2.2.2.2.1 hB22).mono hB22.size) (And.intro ((Sv.below F21.out.2.2.2.2.2.1 hB22).mono hB22.size) (And.intro ((Sv.below F21.out.2.2.2.2.2.2.1 hB22).mono hB22.size) (And.intro ((Sv.below F21.out.2.2.2.2.2.2.2.1 hB22).mono hB22.size) ((Sv.below F21.out.2.2.2.2.2.2.2.2 hB22).mono hB22.size)))))))))
  clear hB22
  obtain ⟨wq2, hwq2⟩ : ∃ x, v22.alloc (.cells #[.int .i64 1, .int .i64 18, .int .i64 2, .int .i64 22] 36) = x := ⟨_, rfl⟩
  have hBq2 : Below v22.heap.size v22 wq2 := by rw [← hwq2]; exact (Below.refl _ _).alloc (Nat.le_refl _) _
  have hSq2 : Sv wq2.heap.size wq2 (.slice (some ⟨v22.heap.size, 0, none⟩) 2 2) [(1, 18), (2, 22)] := by rw [← hwq2]; exact lit_view _ (by decide) 2 rfl _ rfl
  have F24 := Lib.hid (And.intro (F23.out.1.trans (hBq2.mono F23.out.1.size)) (And.intro (F23.out.2.1.below hBq2 F23.out.2.1.numLt F23.out.2.1.startLt) (And.intro ((Sv.below F23.out.2.2.1 hBq2).mono hBq2.size) (And.intro ((Sv.below F23.out.2.2.2.1 hBq2).mono hBq2.size) (And.intro ((Sv.below F23.out.2.2.2.2.1 hBq2).mono hBq2.size) (And.intro ((Sv.below F23.out.2.2.2.2.2.1 hBq2).mono hBq2.size) (And.intro ((Sv.below F23.out.2.2.2.2.2.2.1 hBq2).mono hBq2.size) (And.intro ((Sv.below F23.out.2.2.2.2.2.2.2.1 hBq2).mono hBq2.size) (And.intro ((Sv.below F23.out.2.2.2.2.2.2.2.2 hBq2).mono hBq2.size) hSq2)))))))))
  clear hBq2 hSq2
  have CE2 := Lib.hid (same_any _ _ (by decide) (by decide) _ _ wq2 F24.out.2.2.2.2.2.2.1 F24.out.2.2.2.2.2.2.2.2.2)
  rw [show ((Chart.raw Chart.dbl) == [(1, 18), (2, 22)]) = true from by decide +kernel] at CE2
  go_wp2_with fail
  refine (CE2.out).mono ?_
  rintro e v25 ⟨rfl, hB25⟩
  have F26 := Lib.hid (And.intro (F24.out.1.trans (hB25.mono F24.out.1.size)) (And.intro (F24.out.2.1.below hB25 F24.out.2.1.numLt F24.out.2.1.startLt) (And.intro ((Sv.below F24.out.2.2.1 hB25).mono hB25.size) (And.intro ((Sv.below F24.out.2.2.2.1 hB25).mono hB25.size) (And.intro ((Sv.below F24.out.2.2.2.2.1 hB25).mono hB25.size) (And.intro ((Sv.below F24.out.2.2.2.2.2.1 hB25).mono hB25.size) (And.intro ((Sv.below F24.out.2.2.2.2.2.2.1 hB25).mono hB25.size) (And.intro ((Sv.below F24.out.2.2.2.2.2.2.2.1 hB25).mono hB25.size) (And.intro ((Sv.below F24.out.2.2.2.2.2.2.2.2.1 hB25).mono hB25.size) ((Sv.below F24.out.2.2.2.2.2.2.2.2.2 hB25).mono hB25.size))))))))))
  clear hB25
  go_wp2_with fail
  go_ret
  exact ⟨rfl, F26.out.1⟩
end Go.Proofs.YtgklcfipgdbbgaaGreatDoor
