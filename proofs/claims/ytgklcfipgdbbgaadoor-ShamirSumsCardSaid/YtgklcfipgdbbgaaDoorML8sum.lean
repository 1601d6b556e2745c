/- chartroomlaw08.ShamirSums, walked. -/
import Derived.Test.YtgklcfipgdbbgaaDoorM25
namespace Go.Proofs.YtgklcfipgdbbgaaDoor
open Go.RowKit


set_option maxRecDepth 20000 in
set_option maxHeartbeats 4000000 in
theorem ssum_few1 (v0 : Value) (a : Chart.Rs) (v1 : Value) (b : Chart.Rs) (need : Int) (w : World) (hS0 : Sv w.heap.size w v0 a) (hS1 : Sv w.heap.size w v1 b) (hl : Laid w) (f0 : fewB a.length = false) :
    Calls Tryd.prog 7 #[v0, v1, .int .i64 need] w fun e w' => e = .returned (.bool true) ∧ Below w.heap.size w w' := by
  obtain ⟨a0, c0, h0, -, -⟩ := hS0.shape
  obtain ⟨a1, c1, h1, -, -⟩ := hS1.shape
  obtain ⟨n0, hn0⟩ : ∃ n, n = a.length := ⟨_, rfl⟩
  obtain ⟨n1, hn1⟩ : ∃ n, n = b.length := ⟨_, rfl⟩
  rw [← hn0] at h0
  rw [← hn1] at h1
  rw [← hn0] at f0
  have HF0 := Lib.hid f0
  subst h0
  subst h1
  have F1 := Lib.hid (And.intro (Below.refl w.heap.size w) hl)
  clear hS0 hS1 hn0 hn1 hl f0
  go_enter Tryd.func7, Tryd.ntmps7
  go_wp2_with fail
  refine (sane_ok w F1.out.2).mono ?_
  rintro e v2 ⟨rfl, hB2⟩
  have F3 := Lib.hid (And.intro (F1.out.1.trans (hB2.mono F1.out.1.size)) (F1.out.2.below hB2 F1.out.2.numLt F1.out.2.startLt))
  clear hB2
  go_wp2_with fail
  refine (few_any _ _ _ _).mono ?_
  rintro e wf0 ⟨rfl, rfl⟩
  rw [HF0.out]
  go_wp2_with fail
  go_ret
  exact ⟨rfl, F3.out.1⟩

set_option maxRecDepth 20000 in
set_option maxHeartbeats 4000000 in
theorem ssum_few2 (v0 : Value) (a : Chart.Rs) (v1 : Value) (b : Chart.Rs) (need : Int) (w : World) (hS0 : Sv w.heap.size w v0 a) (hS1 : Sv w.heap.size w v1 b) (hl : Laid w) (f0 : fewB a.length = true) (f1 : fewB b.length = false) :
    Calls Tryd.prog 7 #[v0, v1, .int .i64 need] w fun e w' => e = .returned (.bool true) ∧ Below w.heap.size w w' := by
  obtain ⟨a0, c0, h0, -, -⟩ := hS0.shape
  obtain ⟨a1, c1, h1, -, -⟩ := hS1.shape
  obtain ⟨n0, hn0⟩ : ∃ n, n = a.length := ⟨_, rfl⟩
  obtain ⟨n1, hn1⟩ : ∃ n, n = b.length := ⟨_, rfl⟩
  rw [← hn0] at h0
  rw [← hn1] at h1
  rw [← hn0] at f0
  have HF0 := Lib.hid f0
  rw [← hn1] at f1
  have HF1 := Lib.hid f1
  subst h0
  subst h1
  have F1 := Lib.hid (And.intro (Below.refl w.heap.size w) hl)
  clear hS0 hS1 hn0 hn1 hl f0 f1
  go_enter Tryd.func7, Tryd.ntmps7
  go_wp2_with fail
  refine (sane_ok w F1.out.2).mono ?_
  rintro e v2 ⟨rfl, hB2⟩
  have F3 := Lib.hid (And.intro (F1.out.1.trans (hB2.mono F1.out.1.size)) (F1.out.2.below hB2 F1.out.2.numLt F1.out.2.startLt))
  clear hB2
  go_wp2_with fail
  refine (few_any _ _ _ _).mono ?_
  rintro e wf0 ⟨rfl, rfl⟩
  rw [HF0.out]
  go_wp2_with fail
  refine (few_any _ _ _ _).mono ?_
  rintro e wf1 ⟨rfl, rfl⟩
  rw [HF1.out]
  go_wp2_with fail
  go_ret
  exact ⟨rfl, F3.out.1⟩

set_option maxRecDepth 20000 in
set_option maxHeartbeats 4000000 in
theorem ssum_bad (v0 : Value) (a : Chart.Rs) (v1 : Value) (b : Chart.Rs) (need : Int) (w : World) (hS0 : Sv w.heap.size w v0 a) (hS1 : Sv w.heap.size w v1 b) (hl : Laid w) (f0 : fewB a.length = true) (f1 : fewB b.length = true)
    (hC : ∀ v x w, Sv w.heap.size w v a → Sv w.heap.size w x b → Calls Tryd.prog 13 #[v, x] w fun e w' => e = noS 80 ∧ Below w.heap.size w w') :
    Calls Tryd.prog 7 #[v0, v1, .int .i64 need] w fun e w' => e = .returned (.bool true) ∧ Below w.heap.size w w' := by
  obtain ⟨a0, c0, h0, -, -⟩ := hS0.shape
  obtain ⟨a1, c1, h1, -, -⟩ := hS1.shape
  obtain ⟨n0, hn0⟩ : ∃ n, n = a.length := ⟨_, rfl⟩
  obtain ⟨n1, hn1⟩ : ∃ n, n = b.length := ⟨_, rfl⟩
  rw [← hn0] at h0
  rw [← hn1] at h1
  rw [← hn0] at f0
  have HF0 := Lib.hid f0
  rw [← hn1] at f1
  have HF1 := Lib.hid f1
  subst h0
  subst h1
  have CS := Lib.hid hC
  have F1 := Lib.hid (And.intro (Below.refl w.heap.size w) (And.intro hl (And.intro hS0 hS1)))
  clear hS0 hS1 hn0 hn1 hl f0 f1 hC
  go_enter Tryd.func7, Tryd.ntmps7
  go_wp2_with fail
  refine (sane_ok w F1.out.2.1).mono ?_
  rintro e v2 ⟨rfl, hB2⟩
  have F3 := Lib.hid (And.intro (F1.out.1.trans (hB2.mono F1.out.1.size)) (And.intro (F1.out.2.1.below hB2 F1.out.2.1.numLt F1.out.2.1.startLt) (And.intro ((Sv.below F1.out.2.2.1 hB2).mono hB2.size) ((Sv.below F1.out.2.2.2 hB2).mono hB2.size))))
  clear hB2
  go_wp2_with fail
  refine (few_any _ _ _ _).mono ?_
  rintro e wf0 ⟨rfl, rfl⟩
  rw [HF0.out]
  go_wp2_with fail
  refine (few_any _ _ _ _).mono ?_
  rintro e wf1 ⟨rfl, rfl⟩
  rw [HF1.out]
  go_wp2_with fail
  refine (CS.out _ _ v2 F3.out.2.2.1 F3.out.2.2.2).mono ?_
  rintro e v4 ⟨rfl, hB4⟩
  have F5 := Lib.hid (And.intro (F3.out.1.trans (hB4.mono F3.out.1.size)) (And.intro (F3.out.2.1.below hB4 F3.out.2.1.numLt F3.out.2.1.startLt) (And.intro ((Sv.below F3.out.2.2.1 hB4).mono hB4.size) ((Sv.below F3.out.2.2.2 hB4).mono hB4.size))))
  clear hB4
  go_wp2_with fail
  go_ret
  exact ⟨rfl, F5.out.1⟩

set_option maxRecDepth 20000 in
set_option maxHeartbeats 4000000 in
theorem ssum_fine (v0 : Value) (a : Chart.Sh) (v1 : Value) (b : Chart.Sh) (need : Int) (w : World) (hS0 : Sv w.heap.size w v0 (Chart.raw a)) (hS1 : Sv w.heap.size w v1 (Chart.raw b)) (hl : Laid w) (f0 : fewB (Chart.raw a).length = true) (f1 : fewB (Chart.raw b).length = true) (oa : Chart.okS (Chart.raw a) = true) (ob : Chart.okS (Chart.raw b) = true) (oz : Chart.okS (Chart.raw (Chart.sumSh a b)) = true) (heq : Chart.places a = Chart.places b) (c : Int) (x y z : Bool) (hxyz : x = false ∨ y = false ∨ z = true)
    (hFa : ∀ v w, Sv w.heap.size w v (Chart.raw a) → Calls Tryd.prog 11 #[v, .int .i64 need] w fun e w' => e = twoB x c ∧ Below w.heap.size w w')
    (hFb : ∀ v w, Sv w.heap.size w v (Chart.raw b) → Calls Tryd.prog 11 #[v, .int .i64 need] w fun e w' => e = twoB y c ∧ Below w.heap.size w w')
    (hFz : ∀ v w, Sv w.heap.size w v (Chart.raw (Chart.sumSh a b)) → Calls Tryd.prog 11 #[v, .int .i64 need] w fun e w' => e = twoB z c ∧ Below w.heap.size w w') :
    Calls Tryd.prog 7 #[v0, v1, .int .i64 need] w fun e w' => e = .returned (.bool true) ∧ Below w.heap.size w w' := by
  obtain ⟨a0, c0, h0, -, -⟩ := hS0.shape
  obtain ⟨a1, c1, h1, -, -⟩ := hS1.shape
  obtain ⟨n0, hn0⟩ : ∃ n, n = (Chart.raw a).length := ⟨_, rfl⟩
  obtain ⟨n1, hn1⟩ : ∃ n, n = (Chart.raw b).length := ⟨_, rfl⟩
  rw [← hn0] at h0
  rw [← hn1] at h1
  rw [← hn0] at f0
  have HF0 := Lib.hid f0
  rw [← hn1] at f1
  have HF1 := Lib.hid f1
  subst h0
  subst h1
  have CS := Lib.hid (sum_ok a b oa ob heq)
  have CA := join_ok a oa
  have CB := join_ok b ob
  have CZ := join_ok _ oz
  rw [Chart.val_sumSh heq] at CZ
  have CP := faddF (Chart.val a 0) (Chart.val b 0)
  generalize Chart.val a 0 = ja at *
  generalize Chart.val b 0 = jb at *
  replace CA := Lib.hid CA
  replace CB := Lib.hid CB
  replace CZ := Lib.hid CZ
  replace CP := Lib.hid CP
  have FA := Lib.hid hFa
  have FB := Lib.hid hFb
  have FZ := Lib.hid hFz
  have F1 := Lib.hid (And.intro (Below.refl w.heap.size w) (And.intro hl (And.intro hS0 hS1)))
  clear hS0 hS1 hn0 hn1 hl f0 f1 oa ob oz heq hFa hFb hFz
  go_enter Tryd.func7, Tryd.ntmps7
  go_wp2_with fail
  refine (sane_ok w F1.out.2.1).mono ?_
  rintro e v2 ⟨rfl, hB2⟩
  have F3 := Lib.hid (And.intro (F1.out.1.trans (hB2.mono F1.out.1.size)) (And.intro (F1.out.2.1.below hB2 F1.out.2.1.numLt F1.out.2.1.startLt) (And.intro ((Sv.below F1.out.2.2.1 hB2).mono hB2.size) ((Sv.below F1.out.2.2.2 hB2).mono hB2.size))))
  clear hB2
  go_wp2_with fail
  refine (few_any _ _ _ _).mono ?_
  rintro e wf0 ⟨rfl, rfl⟩
  rw [HF0.out]
  go_wp2_with fail
  refine (few_any _ _ _ _).mono ?_
  rintro e wf1 ⟨rfl, rfl⟩
  rw [HF1.out]
  go_wp2_with fail
  refine (CS.out _ _ v2 F3.out.2.2.1 F3.out.2.2.2).mono ?_
  rintro e v4 ⟨u, rfl, hO, hB4⟩
  have F5 := Lib.hid (And.intro (F3.out.1.trans (hB4.mono F3.out.1.size)) (And.intro (F3.out.2.1.below hB4 F3.out.2.1.numLt F3.out.2.1.startLt) (And.intro ((Sv.below F3.out.2.2.1 hB4).mono hB4.size) (And.intro ((Sv.below F3.out.2.2.2 hB4).mono hB4.size) hO.view))))
  clear hB4
  clear hO
  obtain ⟨au, cu, hu, -, -⟩ := (F5.out.2.2.2.2).shape
  obtain ⟨nu, hnu⟩ : ∃ n, n = (Chart.raw (Chart.sumSh a b)).length := ⟨_, rfl⟩
  rw [← hnu] at hu
  subst hu
  clear hnu
  go_wp2_with fail
  refine (CA.out _ v4 F5.out.2.2.1).mono ?_
  rintro e v6 ⟨rfl, hB6⟩
  have F7 := Lib.hid (And.intro (F5.out.1.trans (hB6.mono F5.out.1.size)) (And.intro (F5.out.2.1.below hB6 F5.out.2.1.numLt F5.out.2.1.startLt) (And.intro ((Sv.below F5.out.2.2.1 hB6).mono hB6.size) (And.intro ((Sv.below F5.out.2.2.2.1 hB6).mono hB6.size) ((Sv.below F5.out.2.2.2.2 hB6).mono hB6.size)))))
  clear hB6
  go_wp2_with fail
  refine (CB.out _ v6 F7.out.2.2.2.1).mono ?_
  rintro e v8 ⟨rfl, hB8⟩
  have F9 := Lib.hid (And.intro (F7.out.1.trans (hB8.mono F7.out.1.size)) (And.intro (F7.out.2.1.below hB8 F7.out.2.1.numLt F7.out.2.1.startLt) (And.intro ((Sv.below F7.out.2.2.1 hB8).mono hB8.size) (And.intro ((Sv.below F7.out.2.2.2.1 hB8).mono hB8.size) ((Sv.below F7.out.2.2.2.2 hB8).mono hB8.size)))))
  clear hB8
  go_wp2_with fail
  refine (CZ.out _ v8 F9.out.2.2.2.2).mono ?_
  rintro e v10 ⟨rfl, hB10⟩
  have F11 := Lib.hid (And.intro (F9.out.1.trans (hB10.mono F9.out.1.size)) (And.intro (F9.out.2.1.below hB10 F9.out.2.1.numLt F9.out.2.1.startLt) (And.intro ((Sv.below F9.out.2.2.1 hB10).mono hB10.size) (And.intro ((Sv.below F9.out.2.2.2.1 hB10).mono hB10.size) ((Sv.below F9.out.2.2.2.2 hB10).mono hB10.size)))))
  clear hB10
  go_wp2_with fail
  refine (CP.out v10).mono ?_
  rintro e v12 ⟨rfl, hB12⟩
  have F13 := Lib.hid (And.intro (F11.out.1.trans (hB12.mono F11.out.1.size)) (And.intro (F11.out.2.1.below hB12 F11.out.2.1.numLt F11.out.2.1.startLt) (And.intro ((Sv.below F11.out.2.2.1 hB12).mono hB12.size) (And.intro ((Sv.below F11.out.2.2.2.1 hB12).mono hB12.size) ((Sv.below F11.out.2.2.2.2 hB12).mono hB12.size)))))
  clear hB12
  go_wp2_with fail
  refine (FA.out _ v12 F13.out.2.2.1).mono ?_
  rintro e v14 ⟨rfl, hB14⟩
  have F15 := Lib.hid (And.intro (F13.out.1.trans (hB14.mono F13.out.1.size)) (And.intro (F13.out.2.1.below hB14 F13.out.2.1.numLt F13.out.2.1.startLt) (And.intro ((Sv.below F13.out.2.2.1 hB14).mono hB14.size) (And.intro ((Sv.below F13.out.2.2.2.1 hB14).mono hB14.size) ((Sv.below F13.out.2.2.2.2 hB14).mono hB14.size)))))
  clear hB14
  go_wp2_with fail
  refine (FB.out _ v14 F15.out.2.2.2.1).mono ?_
  rintro e v16 ⟨rfl, hB16⟩
  have F17 := Lib.hid (And.intro (F15.out.1.trans (hB16.mono F15.out.1.size)) (And.intro (F15.out.2.1.below hB16 F15.out.2.1.numLt F15.out.2.1.startLt) (And.intro ((Sv.below F15.out.2.2.1 hB16).mono hB16.size) (And.intro ((Sv.below F15.out.2.2.2.1 hB16).mono hB16.size) ((Sv.below F15.out.2.2.2.2 hB16).mono hB16.size)))))
  clear hB16
  go_wp2_with fail
  refine (FZ.out _ v16 F17.out.2.2.2.2).mono ?_
  rintro e v18 ⟨rfl, hB18⟩
  have F19 := Lib.hid (And.intro (F17.out.1.trans (hB18.mono F17.out.1.size)) (And.intro (F17.out.2.1.below hB18 F17.out.2.1.numLt F17.out.2.1.startLt) (And.intro ((Sv.below F17.out.2.2.1 hB18).mono hB18.size) (And.intro ((Sv.below F17.out.2.2.2.1 hB18).mono hB18.size) ((Sv.below F17.out.2.2.2.2 hB18).mono hB18.size)))))
  clear hB18
  rcases hxyz with rfl | rfl | rfl
  all_goals
    go_wp2_with fail
    all_goals
      go_ret
      exact ⟨by first | rfl | simp, F19.out.1⟩

theorem raw_sum_ok {a b : Chart.Sh} (oa : Chart.okS (Chart.raw a) = true) (heq : Chart.places a = Chart.places b) : Chart.okS (Chart.raw (Chart.sumSh a b)) = true := Chart.okS_places oa (Chart.sumSh_places heq)

theorem ssum_walk (v0 : Value) (a : Chart.Rs) (v1 : Value) (b : Chart.Rs) (need : Int) (w : World) (hS0 : Sv w.heap.size w v0 a) (_ : a.length ≤ maxLen) (hS1 : Sv w.heap.size w v1 b) (_ : b.length ≤ maxLen) (hl : Laid w) :
    Calls Tryd.prog 7 #[v0, v1, .int .i64 need] w fun e w' => e = .returned (.bool true) ∧ Below w.heap.size w w' := by
  cases f0 : fewB a.length
  · exact ssum_few1 v0 a v1 b need w hS0 hS1 hl f0
  cases f1 : fewB b.length
  · exact ssum_few2 v0 a v1 b need w hS0 hS1 hl f0 f1
  cases oa : Chart.okS a
  · exact ssum_bad v0 a v1 b need w hS0 hS1 hl f0 f1 (fun v x w h1 h2 => sum_bad1 a b oa v x w h1 h2)
  cases ob : Chart.okS b
  · exact ssum_bad v0 a v1 b need w hS0 hS1 hl f0 f1 (fun v x w h1 h2 => sum_bad2 a b oa ob v x w h1 h2)
  obtain ⟨a', rfl, -⟩ := Chart.okS_raw oa
  obtain ⟨b', rfl, -⟩ := Chart.okS_raw ob
  by_cases heq : Chart.places a' = Chart.places b'
  · have oz := raw_sum_ok oa heq
    by_cases hn : need < 1 ∨ 64 < need
    · exact ssum_fine v0 a' v1 b' need w hS0 hS1 hl f0 f1 oa ob oz heq 1 false false false (Or.inl rfl) (fun v w h => fits_arg _ oa need hn v w h) (fun v w h => fits_arg _ ob need hn v w h) (fun v w h => fits_arg _ oz need hn v w h)
    · obtain ⟨k, rfl⟩ := Int.eq_ofNat_of_zero_le (show 0 ≤ need by omega)
      refine ssum_fine v0 a' v1 b' _ w hS0 hS1 hl f0 f1 oa ob oz heq 0 (Chart.fits a' k) (Chart.fits b' k) (Chart.fits (Chart.sumSh a' b') k) ?_ (fun v w h => fits_ok _ oa k (by omega) (by omega) v w h) (fun v w h => fits_ok _ ob k (by omega) (by omega) v w h) (fun v w h => fits_ok _ oz k (by omega) (by omega) v w h)
      cases h1 : Chart.fits a' k
      · exact Or.inl rfl
      · cases h2 : Chart.fits b' k
        · exact Or.inr (Or.inl rfl)
        · exact Or.inr (Or.inr (Chart.fits_sumSh heq h1 h2))
  · exact ssum_bad v0 _ v1 _ need w hS0 hS1 hl f0 f1 (fun v x w h1 h2 => sum_ne a' b' oa ob heq v x w h1 h2)
end Go.Proofs.YtgklcfipgdbbgaaDoor
