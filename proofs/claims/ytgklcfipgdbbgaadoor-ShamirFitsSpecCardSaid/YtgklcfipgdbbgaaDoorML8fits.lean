/- chartroomlaw08.ShamirFitsSpec, walked. -/
import Derived.Test.YtgklcfipgdbbgaaDoorM25
import Derived.Test.YtgklcfipgdbbgaaDoorMRt8
import Derived.Test.YtgklcfipgdbbgaaDoorMRm8
namespace Go.Proofs.YtgklcfipgdbbgaaDoor
open Go.RowKit
attribute [-go_sem] Builtin.append_

set_option maxRecDepth 20000 in
set_option maxHeartbeats 4000000 in
theorem sfits_few1 (v0 : Value) (a : Chart.Rs) (v1 : Value) (b : Chart.Rs) (need : Int) (w : World) (hS0 : Sv w.heap.size w v0 a) (hS1 : Sv w.heap.size w v1 b) (hl : Laid w) (f0 : fewB a.length = false) :
    Calls Tryd.prog 3 #[v0, v1, .int .i64 need] w fun e w' => e = .returned (.bool true) ∧ Below w.heap.size w w' := by
  obtain ⟨a0, c0, h0, -, -⟩ := hS0.shape
  obtain ⟨a1, c1, h1, -, -⟩ := hS1.shape
  obtain ⟨n0, hn0⟩ : ∃ n, n = a.length := ⟨_, rfl⟩
  obtain ⟨n1, hn1⟩ : ∃ n, n = b.length := ⟨_, rfl⟩
  rw [← hn0] at h0
  rw [← hn1] at h1
  rw [← hn0] at f0
  have HF0 := Lib.hid f0
  subst h0
  subst h1
  have F1 := Lib.hid (And.intro (Below.refl w.heap.size w) hl)
  clear hS0 hS1 hn0 hn1 hl f0
  go_enter Tryd.func3, Tryd.ntmps3
  go_wp2_with fail
  refine (sane_ok w F1.out.2).mono ?_
  rintro e v2 ⟨rfl, hB2⟩
  have F3 := Lib.hid (And.intro (F1.out.1.trans (hB2.mono F1.out.1.size)) (F1.out.2.below hB2 F1.out.2.numLt F1.out.2.startLt))
  clear hB2
  go_wp2_with fail
  refine (few_any _ _ _ _).mono ?_
  rintro e wf0 ⟨rfl, rfl⟩
  rw [HF0.out]
  go_wp2_with fail
  go_ret
  exact ⟨rfl, F3.out.1⟩

set_option maxRecDepth 20000 in
set_option maxHeartbeats 4000000 in
theorem sfits_few2 (v0 : Value) (a : Chart.Rs) (v1 : Value) (b : Chart.Rs) (need : Int) (w : World) (hS0 : Sv w.heap.size w v0 a) (hS1 : Sv w.heap.size w v1 b) (hl : Laid w) (f0 : fewB a.length = true) (f1 : fewB b.length = false) :
    Calls Tryd.prog 3 #[v0, v1, .int .i64 need] w fun e w' => e = .returned (.bool true) ∧ Below w.heap.size w w' := by
  obtain ⟨a0, c0, h0, -, -⟩ := hS0.shape
  obtain ⟨a1, c1, h1, -, -⟩ := hS1.shape
  obtain ⟨n0, hn0⟩ : ∃ n, n = a.length := ⟨_, rfl⟩
  obtain ⟨n1, hn1⟩ : ∃ n, n = b.length := ⟨_, rfl⟩
  rw [← hn0] at h0
  rw [← hn1] at h1
  rw [← hn0] at f0
  have HF0 := Lib.hid f0
  rw [← hn1] at f1
  have HF1 := Lib.hid f1
  subst h0
  subst h1
  have F1 := Lib.hid (And.intro (Below.refl w.heap.size w) hl)
  clear hS0 hS1 hn0 hn1 hl f0 f1
  go_enter Tryd.func3, Tryd.ntmps3
  go_wp2_with fail
  refine (sane_ok w F1.out.2).mono ?_
  rintro e v2 ⟨rfl, hB2⟩
  have F3 := Lib.hid (And.intro (F1.out.1.trans (hB2.mono F1.out.1.size)) (F1.out.2.below hB2 F1.out.2.numLt F1.out.2.startLt))
  clear hB2
  go_wp2_with fail
  refine (few_any _ _ _ _).mono ?_
  rintro e wf0 ⟨rfl, rfl⟩
  rw [HF0.out]
  go_wp2_with fail
  refine (few_any _ _ _ _).mono ?_
  rintro e wf1 ⟨rfl, rfl⟩
  rw [HF1.out]
  go_wp2_with fail
  go_ret
  exact ⟨rfl, F3.out.1⟩

set_option maxRecDepth 20000 in
set_option maxHeartbeats 4000000 in
theorem sfits_main (v0 : Value) (a : Chart.Rs) (v1 : Value) (b : Chart.Rs) (need : Int) (w : World) (hS0 : Sv w.heap.size w v0 a) (hS1 : Sv w.heap.size w v1 b) (hl : Laid w) (f0 : fewB a.length = true) (f1 : fewB b.length = true) (fb : Bool) (fc sc : Int) (R : Chart.Rs) (hR : R.length ≤ 1000)
    (CF1 : ∀ v w, Sv w.heap.size w v a → Calls Tryd.prog 11 #[v, .int .i64 need] w fun e w' => e = twoB fb fc ∧ Below w.heap.size w w')
    (CF2 : ∀ v w, Sv w.heap.size w v a → Calls Tryd.prog 12 #[v, .int .i64 need] w fun e w' => e = twoB fb fc ∧ Below w.heap.size w w')
    (CS1 : ∀ v x w, Sv w.heap.size w v a → Sv w.heap.size w x b → Calls Tryd.prog 13 #[v, x] w fun e w' => ∃ u, e = .returned (.tuple #[u, .int .i64 sc]) ∧ OwnS w.heap.size w' u R ∧ Below w.heap.size w w')
    (CS2 : ∀ v x w, Sv w.heap.size w v a → Sv w.heap.size w x b → Calls Tryd.prog 14 #[v, x] w fun e w' => ∃ u, e = .returned (.tuple #[u, .int .i64 sc]) ∧ OwnS w.heap.size w' u R ∧ Below w.heap.size w w') :
    Calls Tryd.prog 3 #[v0, v1, .int .i64 need] w fun e w' => e = .returned (.bool true) ∧ Below w.heap.size w w' := by
  obtain ⟨a0, c0, h0, -, -⟩ := hS0.shape
  obtain ⟨a1, c1, h1, -, -⟩ := hS1.shape
  obtain ⟨n0, hn0⟩ : ∃ n, n = a.length := ⟨_, rfl⟩
  obtain ⟨n1, hn1⟩ : ∃ n, n = b.length := ⟨_, rfl⟩
  rw [← hn0] at h0
  rw [← hn1] at h1
  rw [← hn0] at f0
  have HF0 := Lib.hid f0
  rw [← hn1] at f1
  have HF1 := Lib.hid f1
  subst h0
  subst h1
  replace CF1 := Lib.hid CF1
  replace CF2 := Lib.hid CF2
  replace CS1 := Lib.hid CS1
  replace CS2 := Lib.hid CS2
  have HR := Lib.hid hR
  have F1 := Lib.hid (And.intro (Below.refl w.heap.size w) (And.intro hl (And.intro hS0 hS1)))
  clear hS0 hS1 hn0 hn1 hl f0 f1 hR
  go_enter Tryd.func3, Tryd.ntmps3
  go_wp2_with fail
  refine (sane_ok w F1.out.2.1).mono ?_
  rintro e v2 ⟨rfl, hB2⟩
  have F3 := Lib.hid (And.intro (F1.out.1.trans (hB2.mono F1.out.1.size)) (And.intro (F1.out.2.1.below hB2 F1.out.2.1.numLt F1.out.2.1.startLt) (And.intro ((Sv.below F1.out.2.2.1 hB2).mono hB2.size) ((Sv.below F1.out.2.2.2 hB2).mono hB2.size))))
  clear hB2
  go_wp2_with fail
  refine (few_any _ _ _ _).mono ?_
  rintro e wf0 ⟨rfl, rfl⟩
  rw [HF0.out]
  go_wp2_with fail
  refine (few_any _ _ _ _).mono ?_
  rintro e wf1 ⟨rfl, rfl⟩
  rw [HF1.out]
  go_wp2_with fail
  refine (CF1.out _ v2 F3.out.2.2.1).mono ?_
  rintro e v4 ⟨rfl, hB4⟩
  have F5 := Lib.hid (And.intro (F3.out.1.trans (hB4.mono F3.out.1.size)) (And.intro (F3.out.2.1.below hB4 F3.out.2.1.numLt F3.out.2.1.startLt) (And.intro ((Sv.below F3.out.2.2.1 hB4).mono hB4.size) ((Sv.below F3.out.2.2.2 hB4).mono hB4.size))))
  clear hB4
  go_wp2_with fail
  refine (CF2.out _ v4 F5.out.2.2.1).mono ?_
  rintro e v6 ⟨rfl, hB6⟩
  have F7 := Lib.hid (And.intro (F5.out.1.trans (hB6.mono F5.out.1.size)) (And.intro (F5.out.2.1.below hB6 F5.out.2.1.numLt F5.out.2.1.startLt) (And.intro ((Sv.below F5.out.2.2.1 hB6).mono hB6.size) ((Sv.below F5.out.2.2.2 hB6).mono hB6.size))))
  clear hB6
  go_wp2_with fail
  refine (CS1.out _ _ v6 F7.out.2.2.1 F7.out.2.2.2).mono ?_
  rintro e v8 ⟨u, rfl, hO, hB8⟩
  have F9 := Lib.hid (And.intro (F7.out.1.trans (hB8.mono F7.out.1.size)) (And.intro (F7.out.2.1.below hB8 F7.out.2.1.numLt F7.out.2.1.startLt) (And.intro ((Sv.below F7.out.2.2.1 hB8).mono hB8.size) (And.intro ((Sv.below F7.out.2.2.2 hB8).mono hB8.size) hO.view))))
  clear hB8
  clear hO
  go_wp2_with fail
  refine (CS2.out _ _ v8 F9.out.2.2.1 F9.out.2.2.2.1).mono ?_
  rintro e v10 ⟨u2, rfl, hO, hB10⟩
  have F11 := Lib.hid (And.intro (F9.out.1.trans (hB10.mono F9.out.1.size)) (And.intro (F9.out.2.1.below hB10 F9.out.2.1.numLt F9.out.2.1.startLt) (And.intro ((Sv.below F9.out.2.2.1 hB10).mono hB10.size) (And.intro ((Sv.below F9.out.2.2.2.1 hB10).mono hB10.size) (And.intro ((Sv.below F9.out.2.2.2.2 hB10).mono hB10.size) hO.view)))))
  clear hB10
  clear hO
  have CE := Lib.hid (same_any R R HR.out HR.out u u2 v10 F11.out.2.2.2.2.1 F11.out.2.2.2.2.2)
  rw [beq_self_eq_true] at CE
  go_wp2_with fail
  refine (CE.out).mono ?_
  rintro e v12 ⟨rfl, hB12⟩
  have F13 := Lib.hid (And.intro (F11.out.1.trans (hB12.mono F11.out.1.size)) (And.intro (F11.out.2.1.below hB12 F11.out.2.1.numLt F11.out.2.1.startLt) (And.intro ((Sv.below F11.out.2.2.1 hB12).mono hB12.size) (And.intro ((Sv.below F11.out.2.2.2.1 hB12).mono hB12.size) (And.intro ((Sv.below F11.out.2.2.2.2.1 hB12).mono hB12.size) ((Sv.below F11.out.2.2.2.2.2 hB12).mono hB12.size))))))
  clear hB12
  go_wp2_with fail
  all_goals
    go_ret
    exact ⟨by first | rfl | simp, F13.out.1⟩

/-- No shares are shares, too. -/
theorem no_made {f : FuncId} {args : Array Value} {w : World} {c : Int} (h : Calls Tryd.prog f args w fun e w' => e = noS c ∧ Below w.heap.size w w') : Calls Tryd.prog f args w fun e w' => ∃ u, e = .returned (.tuple #[u, .int .i64 c]) ∧ OwnS w.heap.size w' u [] ∧ Below w.heap.size w w' := by
  refine h.mono ?_
  rintro e w' ⟨rfl, hb⟩
  exact ⟨_, rfl, OwnS.nil _ _, hb⟩

theorem sfits_mid (v0 : Value) (a : Chart.Rs) (v1 : Value) (b : Chart.Rs) (need : Int) (w : World) (hS0 : Sv w.heap.size w v0 a) (hS1 : Sv w.heap.size w v1 b) (hl : Laid w) (f0 : fewB a.length = true) (f1 : fewB b.length = true) (sc : Int) (R : Chart.Rs) (hR : R.length ≤ 1000)
    (CS1 : ∀ v x w, Sv w.heap.size w v a → Sv w.heap.size w x b → Calls Tryd.prog 13 #[v, x] w fun e w' => ∃ u, e = .returned (.tuple #[u, .int .i64 sc]) ∧ OwnS w.heap.size w' u R ∧ Below w.heap.size w w')
    (CS2 : ∀ v x w, Sv w.heap.size w v a → Sv w.heap.size w x b → Calls Tryd.prog 14 #[v, x] w fun e w' => ∃ u, e = .returned (.tuple #[u, .int .i64 sc]) ∧ OwnS w.heap.size w' u R ∧ Below w.heap.size w w') :
    Calls Tryd.prog 3 #[v0, v1, .int .i64 need] w fun e w' => e = .returned (.bool true) ∧ Below w.heap.size w w' := by
  cases oa : Chart.okS a
  · exact sfits_main v0 a v1 b need w hS0 hS1 hl f0 f1 false 80 sc R hR (fun v w h => fits_bad a oa need v w h) (fun v w h => rfits_bad a oa need v w h) CS1 CS2
  obtain ⟨a', rfl, -⟩ := Chart.okS_raw oa
  by_cases hn : need < 1 ∨ 64 < need
  · exact sfits_main v0 _ v1 b need w hS0 hS1 hl f0 f1 false 1 sc R hR (fun v w h => fits_arg _ oa need hn v w h) (fun v w h => rfits_arg _ oa need hn v w h) CS1 CS2
  · obtain ⟨k, rfl⟩ := Int.eq_ofNat_of_zero_le (show 0 ≤ need by omega)
    exact sfits_main v0 _ v1 b _ w hS0 hS1 hl f0 f1 (Chart.fits a' k) 0 sc R hR (fun v w h => fits_ok _ oa k (by omega) (by omega) v w h) (fun v w h => rfits_ok _ oa k (by omega) (by omega) v w h) CS1 CS2

theorem sfits_walk (v0 : Value) (a : Chart.Rs) (v1 : Value) (b : Chart.Rs) (need : Int) (w : World) (hS0 : Sv w.heap.size w v0 a) (_ : a.length ≤ maxLen) (hS1 : Sv w.heap.size w v1 b) (_ : b.length ≤ maxLen) (hl : Laid w) :
    Calls Tryd.prog 3 #[v0, v1, .int .i64 need] w fun e w' => e = .returned (.bool true) ∧ Below w.heap.size w w' := by
  cases f0 : fewB a.length
  · exact sfits_few1 v0 a v1 b need w hS0 hS1 hl f0
  cases f1 : fewB b.length
  · exact sfits_few2 v0 a v1 b need w hS0 hS1 hl f0 f1
  cases oa : Chart.okS a
  · exact sfits_mid v0 a v1 b need w hS0 hS1 hl f0 f1 80 [] (by simp) (fun v x w h1 h2 => no_made (sum_bad1 a b oa v x w h1 h2)) (fun v x w h1 h2 => no_made (rsum_bad1 a b oa v x w h1 h2))
  cases ob : Chart.okS b
  · exact sfits_mid v0 a v1 b need w hS0 hS1 hl f0 f1 80 [] (by simp) (fun v x w h1 h2 => no_made (sum_bad2 a b oa ob v x w h1 h2)) (fun v x w h1 h2 => no_made (rsum_bad2 a b oa ob v x w h1 h2))
  obtain ⟨a', rfl, -⟩ := Chart.okS_raw oa
  obtain ⟨b', rfl, -⟩ := Chart.okS_raw ob
  by_cases heq : Chart.places a' = Chart.places b'
  · refine sfits_mid v0 _ v1 _ need w hS0 hS1 hl f0 f1 0 (Chart.raw (Chart.sumSh a' b')) ?_ (fun v x w h1 h2 => sum_ok a' b' oa ob heq v x w h1 h2) (fun v x w h1 h2 => (rsum_ok a' b' oa ob v x w h1 h2).mono ?_)
    · rw [Chart.raw_length, Chart.sumSh_length heq]
      have := (Chart.good oa).few
      omega
    · rintro e w' ⟨⟨_, u, rfl, hO⟩ | ⟨hne, _⟩, hb⟩
      · exact ⟨u, rfl, hO, hb⟩
      · exact absurd heq hne
  · refine sfits_mid v0 _ v1 _ need w hS0 hS1 hl f0 f1 80 [] (by simp) (fun v x w h1 h2 => no_made (sum_ne a' b' oa ob heq v x w h1 h2)) (fun v x w h1 h2 => no_made ((rsum_ok a' b' oa ob v x w h1 h2).mono ?_))
    rintro e w' ⟨⟨he, _⟩ | ⟨_, rfl⟩, hb⟩
    · exact absurd he heq
    · exact ⟨rfl, hb⟩

end Go.Proofs.YtgklcfipgdbbgaaDoor
