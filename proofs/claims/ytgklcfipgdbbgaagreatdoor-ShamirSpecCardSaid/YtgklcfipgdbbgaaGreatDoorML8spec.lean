/- chartroomlaw08.ShamirSpec, walked. -/
import Derived.Test.YtgklcfipgdbbgaaGreatDoorM25
import Derived.Test.YtgklcfipgdbbgaaGreatDoorMRp8
namespace Go.Proofs.YtgklcfipgdbbgaaGreatDoor
open Go.RowKit
attribute [-go_sem] Builtin.append_

set_option maxRecDepth 20000 in
set_option maxHeartbeats 4000000 in
theorem sspec_few (v0 : Value) (l : Chart.Rs) (x need many : Int) (k : List UInt8) (w : World) (hS : Sv w.heap.size w v0 l) (hk : k.length = 32) (hl : Laid w) (f0 : fewB l.length = false) :
    Calls Tryz.prog 3 #[v0, .int .i64 x, .int .i64 need, .int .i64 many, .agg (k.map u8v).toArray] w fun e w' => e = .returned (.bool true) ∧ Below w.heap.size w w' := by
  obtain ⟨a0, c0, h0, -, -⟩ := hS.shape
  obtain ⟨n0, hn0⟩ : ∃ n, n = l.length := ⟨_, rfl⟩
  rw [← hn0] at h0 f0
  have HF0 := Lib.hid f0
  subst h0
  obtain ⟨d, hd⟩ : ∃ d, d = k.map u8v := ⟨_, rfl⟩
  rw [← hd]
  have hdl : d.length = 32 := by rw [hd, List.length_map, hk]
  obtain ⟨w1, hw1⟩ : ∃ w1, w1 = w.alloc (.cells d.toArray 24) := ⟨_, rfl⟩
  have hB1 : Below w.heap.size w w1 := by rw [hw1]; exact (Below.refl _ _).alloc (Nat.le_refl _) _
  have hR1 : RowIs w1 w.heap.size 24 d := by rw [hw1]; exact RowIs.new w d _
  have F1 := Lib.hid (And.intro hB1 (And.intro (hl.below hB1 hl.numLt hl.startLt) hR1))
  clear hd hdl hS hn0 f0
  clear hB1 hR1 hl
  go_enter Tryz.func3, Tryz.ntmps3
  go_upto_region 1 with fail
  rw [← hw1]
  clear hw1
  go_wp2_with fail
  refine (sane_ok w1 F1.out.2.1).mono ?_
  rintro e v2 ⟨rfl, hB2⟩
  have F3 := Lib.hid (And.intro (F1.out.1.trans (hB2.mono F1.out.1.size)) (And.intro (F1.out.2.1.below hB2 F1.out.2.1.numLt F1.out.2.1.startLt) (RowIs.below F1.out.2.2 hB2 (RowIs.lt F1.out.2.2))))
  clear hB2
  go_wp2_with fail
  refine (few_any _ _ _ _).mono ?_
  rintro e wf0 ⟨rfl, rfl⟩
  rw [HF0.out]
  go_wp2_with fail
  go_ret
  exact ⟨rfl, F3.out.1⟩

set_option maxRecDepth 20000 in
set_option maxHeartbeats 4000000 in
theorem sspec_early (v0 : Value) (l : Chart.Rs) (x need many : Int) (k : List UInt8) (w : World) (hS : Sv w.heap.size w v0 l) (hk : k.length = 32) (hl : Laid w) (f0 : fewB l.length = true) (m1 : 12 < many) (m2 : many ≤ 64) :
    Calls Tryz.prog 3 #[v0, .int .i64 x, .int .i64 need, .int .i64 many, .agg (k.map u8v).toArray] w fun e w' => e = .returned (.bool true) ∧ Below w.heap.size w w' := by
  obtain ⟨a0, c0, h0, -, -⟩ := hS.shape
  obtain ⟨n0, hn0⟩ : ∃ n, n = l.length := ⟨_, rfl⟩
  rw [← hn0] at h0 f0
  have HF0 := Lib.hid f0
  subst h0
  obtain ⟨d, hd⟩ : ∃ d, d = k.map u8v := ⟨_, rfl⟩
  rw [← hd]
  have hdl : d.length = 32 := by rw [hd, List.length_map, hk]
  obtain ⟨w1, hw1⟩ : ∃ w1, w1 = w.alloc (.cells d.toArray 24) := ⟨_, rfl⟩
  have hB1 : Below w.heap.size w w1 := by rw [hw1]; exact (Below.refl _ _).alloc (Nat.le_refl _) _
  have hR1 : RowIs w1 w.heap.size 24 d := by rw [hw1]; exact RowIs.new w d _
  have F1 := Lib.hid (And.intro hB1 (And.intro (hl.below hB1 hl.numLt hl.startLt) hR1))
  clear hd hdl hS hn0 f0
  clear hB1 hR1 hl
  go_enter Tryz.func3, Tryz.ntmps3
  go_upto_region 1 with fail
  rw [← hw1]
  clear hw1
  go_wp2_with fail
  refine (sane_ok w1 F1.out.2.1).mono ?_
  rintro e v2 ⟨rfl, hB2⟩
  have F3 := Lib.hid (And.intro (F1.out.1.trans (hB2.mono F1.out.1.size)) (And.intro (F1.out.2.1.below hB2 F1.out.2.1.numLt F1.out.2.1.startLt) (RowIs.below F1.out.2.2 hB2 (RowIs.lt F1.out.2.2))))
  clear hB2
  go_wp2_with fail
  refine (few_any _ _ _ _).mono ?_
  rintro e wf0 ⟨rfl, rfl⟩
  rw [HF0.out]
  go_wp2_with fail
  go_ret
  exact ⟨rfl, F3.out.1⟩

set_option maxRecDepth 20000 in
set_option maxHeartbeats 4000000 in
theorem sspec_main (v0 : Value) (l : Chart.Rs) (x need many : Int) (k : List UInt8) (w : World) (hS : Sv w.heap.size w v0 l) (hk : k.length = 32) (hl : Laid w) (f0 : fewB l.length = true) (m1 : many ≤ 12 ∨ 64 < many) (sc jv jc : Int) (R : Chart.Rs) (hR : R.length ≤ 1000)
    (CS1 : ∀ w, Laid w → Calls Tryz.prog 6 #[.int .i64 x, .int .i64 need, .int .i64 many, .agg (k.map u8v).toArray] w fun e w' => ∃ u, e = .returned (.tuple #[u, .int .i64 sc]) ∧ OwnS w.heap.size w' u R ∧ Below w.heap.size w w')
    (CS2 : ∀ w, Laid w → Calls Tryz.prog 7 #[.int .i64 x, .int .i64 need, .int .i64 many, .agg (k.map u8v).toArray] w fun e w' => ∃ u, e = .returned (.tuple #[u, .int .i64 sc]) ∧ OwnS w.heap.size w' u R ∧ Below w.heap.size w w')
    (CJ1 : ∀ v w, Sv w.heap.size w v l → Calls Tryz.prog 8 #[v] w fun e w' => e = two jv jc ∧ Below w.heap.size w w')
    (CJ2 : ∀ v w, Sv w.heap.size w v l → Calls Tryz.prog 9 #[v] w fun e w' => e = two jv jc ∧ Below w.heap.size w w') :
    Calls Tryz.prog 3 #[v0, .int .i64 x, .int .i64 need, .int .i64 many, .agg (k.map u8v).toArray] w fun e w' => e = .returned (.bool true) ∧ Below w.heap.size w w' := by
  obtain ⟨a0, c0, h0, -, -⟩ := hS.shape
  obtain ⟨n0, hn0⟩ : ∃ n, n = l.length := ⟨_, rfl⟩
  rw [← hn0] at h0 f0
  have HF0 := Lib.hid f0
  subst h0
  obtain ⟨d, hd⟩ : ∃ d, d = k.map u8v := ⟨_, rfl⟩
  rw [← hd]
  have hdl : d.length = 32 := by rw [hd, List.length_map, hk]
  obtain ⟨w1, hw1⟩ : ∃ w1, w1 = w.alloc (.cells d.toArray 24) := ⟨_, rfl⟩
  have hB1 : Below w.heap.size w w1 := by rw [hw1]; exact (Below.refl _ _).alloc (Nat.le_refl _) _
  have hR1 : RowIs w1 w.heap.size 24 d := by rw [hw1]; exact RowIs.new w d _
  have F1 := Lib.hid (And.intro hB1 (And.intro (hl.below hB1 hl.numLt hl.startLt) (And.intro hR1 ((hS.below hB1).mono hB1.size))))
  rw [← hd] at CS1 CS2
  replace CS1 := Lib.hid CS1
  replace CS2 := Lib.hid CS2
  replace CJ1 := Lib.hid CJ1
  replace CJ2 := Lib.hid CJ2
  have CK1 := Lib.hid (fun v w h => scheck_any v l w h)
  have CK2 := Lib.hid (fun v w h => rcheck_any v l w h)
  obtain ⟨ke, hke⟩ : ∃ e, e = shErr l := ⟨_, rfl⟩
  rw [← hke] at CK1 CK2
  have HR := Lib.hid hR
  have hcase : many ≤ 12 ∨ (12 < many ∧ 64 < many) := by omega
  clear hd hS hn0 f0 hR hke m1
  clear hB1 hR1 hl
  go_enter Tryz.func3, Tryz.ntmps3
  go_upto_region 1 with fail
  rw [← hw1]
  clear hw1
  go_wp2_with fail
  refine (sane_ok w1 F1.out.2.1).mono ?_
  rintro e v2 ⟨rfl, hB2⟩
  have F3 := Lib.hid (And.intro (F1.out.1.trans (hB2.mono F1.out.1.size)) (And.intro (F1.out.2.1.below hB2 F1.out.2.1.numLt F1.out.2.1.startLt) (And.intro (RowIs.below F1.out.2.2.1 hB2 (RowIs.lt F1.out.2.2.1)) ((Sv.below F1.out.2.2.2 hB2).mono hB2.size))))
  clear hB2
  go_wp2_with fail
  refine (few_any _ _ _ _).mono ?_
  rintro e wf0 ⟨rfl, rfl⟩
  rw [HF0.out]
  have L4 := (F3.out.2.2.1).loads (P := Tryz.prog) 32 hdl
  rcases hcase with m1 | ⟨m1, m2⟩
  all_goals
    go_wp2_with fail
    refine (CS1.out v2 F3.out.2.1).mono ?_
    rintro e v5 ⟨u, rfl, hO, hB5⟩
    have F6 := Lib.hid (And.intro (F3.out.1.trans (hB5.mono F3.out.1.size)) (And.intro (F3.out.2.1.below hB5 F3.out.2.1.numLt F3.out.2.1.startLt) (And.intro (RowIs.below F3.out.2.2.1 hB5 (RowIs.lt F3.out.2.2.1)) (And.intro ((Sv.below F3.out.2.2.2 hB5).mono hB5.size) hO.view))))
    clear hB5
    clear hO L4
    have L7 := (F6.out.2.2.1).loads (P := Tryz.prog) 32 hdl
    go_wp2_with fail
    refine (CS2.out v5 F6.out.2.1).mono ?_
    rintro e v8 ⟨u2, rfl, hO, hB8⟩
    have F9 := Lib.hid (And.intro (F6.out.1.trans (hB8.mono F6.out.1.size)) (And.intro (F6.out.2.1.below hB8 F6.out.2.1.numLt F6.out.2.1.startLt) (And.intro (RowIs.below F6.out.2.2.1 hB8 (RowIs.lt F6.out.2.2.1)) (And.intro ((Sv.below F6.out.2.2.2.1 hB8).mono hB8.size) (And.intro ((Sv.below F6.out.2.2.2.2 hB8).mono hB8.size) hO.view)))))
    clear hB8
    clear hO L7
    go_wp2_with fail
    refine (CJ1.out _ v8 F9.out.2.2.2.1).mono ?_
    rintro e v10 ⟨rfl, hB10⟩
    have F11 := Lib.hid (And.intro (F9.out.1.trans (hB10.mono F9.out.1.size)) (And.intro (F9.out.2.1.below hB10 F9.out.2.1.numLt F9.out.2.1.startLt) (And.intro (RowIs.below F9.out.2.2.1 hB10 (RowIs.lt F9.out.2.2.1)) (And.intro ((Sv.below F9.out.2.2.2.1 hB10).mono hB10.size) (And.intro ((Sv.below F9.out.2.2.2.2.1 hB10).mono hB10.size) ((Sv.below F9.out.2.2.2.2.2 hB10).mono hB10.size))))))
    clear hB10
    go_wp2_with fail
    refine (CJ2.out _ v10 F11.out.2.2.2.1).mono ?_
    rintro e v12 ⟨rfl, hB12⟩
    have F13 := Lib.hid (And.intro (F11.out.1.trans (hB12.mono F11.out.1.size)) (And.intro (F11.out.2.1.below hB12 F11.out.2.1.numLt F11.out.2.1.startLt) (And.intro (RowIs.below F11.out.2.2.1 hB12 (RowIs.lt F11.out.2.2.1)) (And.intro ((Sv.below F11.out.2.2.2.1 hB12).mono hB12.size) (And.intro ((Sv.below F11.out.2.2.2.2.1 hB12).mono hB12.size) ((Sv.below F11.out.2.2.2.2.2 hB12).mono hB12.size))))))
    clear hB12
    have CE := Lib.hid (same_any R R HR.out HR.out u u2 v12 F13.out.2.2.2.2.1 F13.out.2.2.2.2.2)
    rw [beq_self_eq_true] at CE
    go_wp2_with fail
    refine (CE.out).mono ?_
    rintro e v14 ⟨rfl, hB14⟩
    have F15 := Lib.hid (And.intro (F13.out.1.trans (hB14.mono F13.out.1.size)) (And.intro (F13.out.2.1.below hB14 F13.out.2.1.numLt F13.out.2.1.startLt) (And.intro (RowIs.below F13.out.2.2.1 hB14 (RowIs.lt F13.out.2.2.1)) (And.intro ((Sv.below F13.out.2.2.2.1 hB14).mono hB14.size) (And.intro ((Sv.below F13.out.2.2.2.2.1 hB14).mono hB14.size) ((Sv.below F13.out.2.2.2.2.2 hB14).mono hB14.size))))))
    clear hB14
    go_wp2_with fail
    refine (CK1.out _ v14 F15.out.2.2.2.1).mono ?_
    rintro e v16 ⟨rfl, hB16⟩
    have F17 := Lib.hid (And.intro (F15.out.1.trans (hB16.mono F15.out.1.size)) (And.intro (F15.out.2.1.below hB16 F15.out.2.1.numLt F15.out.2.1.startLt) (And.intro (RowIs.below F15.out.2.2.1 hB16 (RowIs.lt F15.out.2.2.1)) (And.intro ((Sv.below F15.out.2.2.2.1 hB16).mono hB16.size) (And.intro ((Sv.below F15.out.2.2.2.2.1 hB16).mono hB16.size) ((Sv.below F15.out.2.2.2.2.2 hB16).mono hB16.size))))))
    clear hB16
    go_wp2_with fail
    refine (CK2.out _ v16 F17.out.2.2.2.1).mono ?_
    rintro e v18 ⟨rfl, hB18⟩
    have F19 := Lib.hid (And.intro (F17.out.1.trans (hB18.mono F17.out.1.size)) (And.intro (F17.out.2.1.below hB18 F17.out.2.1.numLt F17.out.2.1.startLt) (And.intro (RowIs.below F17.out.2.2.1 hB18 (RowIs.lt F17.out.2.2.1)) (And.intro ((Sv.below F17.out.2.2.2.1 hB18).mono hB18.size) (And.intro ((Sv.below F17.out.2.2.2.2.1 hB18).mono hB18.size) ((Sv.below F17.out.2.2.2.2.2 hB18).mono hB18.size))))))
    clear hB18
    go_wp2_with fail
    all_goals
      go_ret
      exact ⟨by first | rfl | simp, F19.out.1⟩

theorem no_made {f : FuncId} {args : Array Value} {w : World} {c : Int} (h : Calls Tryz.prog f args w fun e w' => e = noS c ∧ Below w.heap.size w w') : Calls Tryz.prog f args w fun e w' => ∃ u, e = .returned (.tuple #[u, .int .i64 c]) ∧ OwnS w.heap.size w' u [] ∧ Below w.heap.size w w' := by
  refine h.mono ?_
  rintro e w' ⟨rfl, hb⟩
  exact ⟨_, rfl, OwnS.nil _ _, hb⟩

theorem sspec_mid (v0 : Value) (l : Chart.Rs) (x need many : Int) (k : List UInt8) (w : World) (hS : Sv w.heap.size w v0 l) (hk : k.length = 32) (hl : Laid w) (f0 : fewB l.length = true) (m1 : many ≤ 12 ∨ 64 < many) (sc : Int) (R : Chart.Rs) (hR : R.length ≤ 1000)
    (CS1 : ∀ w, Laid w → Calls Tryz.prog 6 #[.int .i64 x, .int .i64 need, .int .i64 many, .agg (k.map u8v).toArray] w fun e w' => ∃ u, e = .returned (.tuple #[u, .int .i64 sc]) ∧ OwnS w.heap.size w' u R ∧ Below w.heap.size w w')
    (CS2 : ∀ w, Laid w → Calls Tryz.prog 7 #[.int .i64 x, .int .i64 need, .int .i64 many, .agg (k.map u8v).toArray] w fun e w' => ∃ u, e = .returned (.tuple #[u, .int .i64 sc]) ∧ OwnS w.heap.size w' u R ∧ Below w.heap.size w w') :
    Calls Tryz.prog 3 #[v0, .int .i64 x, .int .i64 need, .int .i64 many, .agg (k.map u8v).toArray] w fun e w' => e = .returned (.bool true) ∧ Below w.heap.size w w' := by
  cases ol : Chart.okS l
  · exact sspec_main v0 l x need many k w hS hk hl f0 m1 sc 0 80 R hR CS1 CS2 (fun v w h => join_bad l ol v w h) (fun v w h => rjoin_bad l ol v w h)
  · obtain ⟨l', rfl, -⟩ := Chart.okS_raw ol
    exact sspec_main v0 _ x need many k w hS hk hl f0 m1 sc ((Chart.val l' 0).val : Nat) 0 R hR CS1 CS2 (fun v w h => join_ok l' ol v w h) (fun v w h => rjoin_ok l' ol v w h)

theorem sspec_walk (v0 : Value) (l : Chart.Rs) (x need many : Int) (k : List UInt8) (w : World) (hS : Sv w.heap.size w v0 l) (_ : l.length ≤ maxLen) (hk : k.length = 32) (hl : Laid w) :
    Calls Tryz.prog 3 #[v0, .int .i64 x, .int .i64 need, .int .i64 many, .agg (k.map u8v).toArray] w fun e w' => e = .returned (.bool true) ∧ Below w.heap.size w w' := by
  cases f0 : fewB l.length
  · exact sspec_few v0 l x need many k w hS hk hl f0
  by_cases hm : 12 < many ∧ many ≤ 64
  · exact sspec_early v0 l x need many k w hS hk hl f0 hm.1 hm.2
  have m1 : many ≤ 12 ∨ 64 < many := by omega
  cases ho : outB x
  · by_cases hb : need < 1 ∨ many < need ∨ 64 < many
    · exact sspec_mid v0 l x need many k w hS hk hl f0 m1 80 [] (by simp) (fun w _ => no_made (split_bad x need many ho hb k w)) (fun w _ => no_made (rsplit_bad x need many ho hb k w))
    · obtain ⟨h0, h1⟩ := outB_false ho
      obtain ⟨y, rfl⟩ := Int.eq_ofNat_of_zero_le h0
      obtain ⟨n, rfl⟩ := Int.eq_ofNat_of_zero_le (show 0 ≤ need by omega)
      obtain ⟨m, rfl⟩ := Int.eq_ofNat_of_zero_le (show 0 ≤ many by omega)
      have hy : y < Chart.Q := by rw [Q_eq]; omega
      have e : ((y : Nat) : Int) = ((Chart.fx y).val : Int) := by rw [Chart.fx_val hy]
      show Calls _ _ #[_, .int .i64 ((y : Nat) : Int), _, _, _] _ _
      rw [e]
      refine sspec_mid v0 l _ _ _ k w hS hk hl f0 m1 0 (Chart.raw (Chart.splitS (coefs (Chart.fx y) k n) m)) ?_ (fun w hl => split_ok (Chart.fx y) n m (by omega) (by omega) (by omega) k hk w hl) (fun w _ => rsplit_ok (Chart.fx y) n m (by omega) (by omega) (by omega) k hk w)
      rw [Chart.raw_length, Chart.splitS_length]
      omega
  · exact sspec_mid v0 l x need many k w hS hk hl f0 m1 1 [] (by simp) (fun w _ => no_made (split_arg x need many ho k w)) (fun w _ => no_made (rsplit_arg x need many ho k w))

end Go.Proofs.YtgklcfipgdbbgaaGreatDoor
