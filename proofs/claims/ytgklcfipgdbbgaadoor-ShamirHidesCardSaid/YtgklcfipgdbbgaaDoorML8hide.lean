/- chartroomlaw08.ShamirHides, walked. -/
import Derived.Test.YtgklcfipgdbbgaaDoorM25
import Derived.Test.YtgklcfipgdbbgaaDoorMRc8
import Derived.Test.YtgklcfipgdbbgaaDoorMHpl
namespace Go.Proofs.YtgklcfipgdbbgaaDoor
open Go.RowKit
attribute [-go_sem] Builtin.append_

set_option maxRecDepth 20000 in
set_option maxHeartbeats 4000000 in
theorem shide_long (v0 : Value) (l : Chart.Rs) (a s o : Int) (w : World) (hS : Sv w.heap.size w v0 l) (hl : Laid w) (hlen : 11 < l.length) :
    Calls Tryd.prog 5 #[v0, .int .i64 a, .int .i64 s, .int .i64 o] w fun e w' => e = .returned (.bool true) ∧ Below w.heap.size w w' := by
  obtain ⟨a0, c0, h0, -, -⟩ := hS.shape
  obtain ⟨n, hn⟩ : ∃ n, n = l.length := ⟨_, rfl⟩
  rw [← hn] at h0
  rw [← hn] at hlen
  subst h0
  have hb : (11 : Int) < (n : Int) := by omega
  have F1 := Lib.hid (And.intro (Below.refl w.heap.size w) hl)
  clear hS hl hn hlen
  go_enter Tryd.func5, Tryd.ntmps5
  go_wp2_with fail
  refine (sane_ok w F1.out.2).mono ?_
  rintro e v2 ⟨rfl, hB2⟩
  have F3 := Lib.hid (And.intro (F1.out.1.trans (hB2.mono F1.out.1.size)) (F1.out.2.below hB2 F1.out.2.numLt F1.out.2.startLt))
  clear hB2
  go_wp2_with fail
  go_ret
  exact ⟨rfl, F3.out.1⟩

set_option maxRecDepth 20000 in
set_option maxHeartbeats 4000000 in
theorem shide_bad (v0 : Value) (l : Chart.Rs) (a s o : Int) (w : World) (hS : Sv w.heap.size w v0 l) (hl : Laid w) (hlen : l.length ≤ 11) (hbad : Chart.okS (l ++ [(a, 0)]) = false) :
    Calls Tryd.prog 5 #[v0, .int .i64 a, .int .i64 s, .int .i64 o] w fun e w' => e = .returned (.bool true) ∧ Below w.heap.size w w' := by
  obtain ⟨a0, c0, h0, -, -⟩ := hS.shape
  obtain ⟨n, hn⟩ : ∃ n, n = l.length := ⟨_, rfl⟩
  rw [← hn] at h0
  subst h0
  have Hn := Lib.hid hn
  have HE := Lib.hid (shErr_bad hbad)
  rw [← hn] at hlen
  have F1 := Lib.hid (And.intro (Below.refl w.heap.size w) (And.intro hl hS))
  clear hS hl hn hbad
  have hb : (n : Int) ≤ 11 := by omega
  go_enter Tryd.func5, Tryd.ntmps5
  go_wp2_with fail
  refine (sane_ok w F1.out.2.1).mono ?_
  rintro e v2 ⟨rfl, hB2⟩
  have F3 := Lib.hid (And.intro (F1.out.1.trans (hB2.mono F1.out.1.size)) (And.intro (F1.out.2.1.below hB2 F1.out.2.1.numLt F1.out.2.1.startLt) ((Sv.below F1.out.2.2 hB2).mono hB2.size)))
  clear hB2
  obtain ⟨u1, x1, u2, x2, E1, E2, hO, hB⟩ := append_both F3.out.2.2 (by rw [← Hn.out]; omega) a 0
  have CK := rcheck_any u2 _ x2 hO.view
  rw [HE.out] at CK
  replace CK := Lib.hid CK
  have F4 := Lib.hid (And.intro (F3.out.1.trans (hB.mono F3.out.1.size)) (And.intro (F3.out.2.1.below hB F3.out.2.1.numLt F3.out.2.1.startLt) ((Sv.below F3.out.2.2 hB).mono hB.size)))
  clear hO hB
  go_wp2_with fail
  refine (CK.out).mono ?_
  rintro e v5 ⟨rfl, hB5⟩
  have F6 := Lib.hid (And.intro (F4.out.1.trans (hB5.mono F4.out.1.size)) (And.intro (F4.out.2.1.below hB5 F4.out.2.1.numLt F4.out.2.1.startLt) ((Sv.below F4.out.2.2 hB5).mono hB5.size)))
  clear hB5
  go_wp2_with fail
  go_ret
  exact ⟨rfl, F6.out.1⟩

set_option maxRecDepth 20000 in
set_option maxHeartbeats 4000000 in
theorem shide_out (v0 : Value) (l : Chart.Rs) (a s o : Int) (w : World) (hS : Sv w.heap.size w v0 l) (hl : Laid w) (hlen : l.length ≤ 11) (hok : Chart.okS (l ++ [(a, 0)]) = true) (hout : s < 0 ∨ 2305843009213688669 ≤ s ∨ o < 0 ∨ 2305843009213688669 ≤ o) :
    Calls Tryd.prog 5 #[v0, .int .i64 a, .int .i64 s, .int .i64 o] w fun e w' => e = .returned (.bool true) ∧ Below w.heap.size w w' := by
  obtain ⟨a0, c0, h0, -, -⟩ := hS.shape
  obtain ⟨n, hn⟩ : ∃ n, n = l.length := ⟨_, rfl⟩
  rw [← hn] at h0
  subst h0
  have Hn := Lib.hid hn
  have HE := Lib.hid (shErr_ok hok)
  rw [← hn] at hlen
  have F1 := Lib.hid (And.intro (Below.refl w.heap.size w) (And.intro hl hS))
  clear hS hl hn hok
  have hcase : s < 0 ∨ (¬ s < 0 ∧ 2305843009213688669 ≤ s) ∨ (¬ s < 0 ∧ ¬ 2305843009213688669 ≤ s ∧ o < 0) ∨ (¬ s < 0 ∧ ¬ 2305843009213688669 ≤ s ∧ ¬ o < 0 ∧ 2305843009213688669 ≤ o) := by omega
  clear hout
  rcases hcase with q1 | ⟨q1, q2⟩ | ⟨q1, q2, q3⟩ | ⟨q1, q2, q3, q4⟩
  all_goals
    have hb : (n : Int) ≤ 11 := by omega
    go_enter Tryd.func5, Tryd.ntmps5
    go_wp2_with fail
    refine (sane_ok w F1.out.2.1).mono ?_
    rintro e v2 ⟨rfl, hB2⟩
    have F3 := Lib.hid (And.intro (F1.out.1.trans (hB2.mono F1.out.1.size)) (And.intro (F1.out.2.1.below hB2 F1.out.2.1.numLt F1.out.2.1.startLt) ((Sv.below F1.out.2.2 hB2).mono hB2.size)))
    clear hB2
    obtain ⟨u1, x1, u2, x2, E1, E2, hO, hB⟩ := append_both F3.out.2.2 (by rw [← Hn.out]; omega) a 0
    have CK := rcheck_any u2 _ x2 hO.view
    rw [HE.out] at CK
    replace CK := Lib.hid CK
    have F4 := Lib.hid (And.intro (F3.out.1.trans (hB.mono F3.out.1.size)) (And.intro (F3.out.2.1.below hB F3.out.2.1.numLt F3.out.2.1.startLt) ((Sv.below F3.out.2.2 hB).mono hB.size)))
    clear hO hB
    go_wp2_with fail
    refine (CK.out).mono ?_
    rintro e v5 ⟨rfl, hB5⟩
    have F6 := Lib.hid (And.intro (F4.out.1.trans (hB5.mono F4.out.1.size)) (And.intro (F4.out.2.1.below hB5 F4.out.2.1.numLt F4.out.2.1.startLt) ((Sv.below F4.out.2.2 hB5).mono hB5.size)))
    clear hB5
    go_wp2_with fail
    go_ret
    exact ⟨rfl, F6.out.1⟩

set_option maxRecDepth 20000 in
set_option maxHeartbeats 4000000 in
theorem shide_ok (v0 : Value) (m : Chart.Sh) (p s o : Chart.F) (w : World) (hS : Sv w.heap.size w v0 (Chart.raw m)) (hl : Laid w) (hlen : m.length ≤ 11) (hok : ∀ y : Chart.F, Chart.okS (Chart.raw (m ++ [(p, y)])) = true) :
    Calls Tryd.prog 5 #[v0, fv p, fv s, fv o] w fun e w' => e = .returned (.bool true) ∧ Below w.heap.size w w' := by
  have CJ : ∀ (y : Chart.F) w, Sv w.heap.size w v0 (Chart.raw m) → Calls Tryd.prog 21 #[v0, fv p, fv y] w fun e w' => e = two ((Chart.val (m ++ [(p, y)]) 0).val : Nat) 0 ∧ Below w.heap.size w w' :=
    fun y w h => joined_ok (Chart.raw m) (p.val : Int) (y.val : Int) (m ++ [(p, y)]) (by rw [Chart.raw_append]; rfl) (hok y) v0 w h
  obtain ⟨q1, q2, q3⟩ := Chart.hide_law hok s
  have q3 := q3 o
  obtain ⟨Z, hZ⟩ : ∃ Z : Chart.F → Chart.F, ∀ y, Chart.val (m ++ [(p, y)]) 0 = Z y := ⟨fun y => Chart.val (m ++ [(p, y)]) 0, fun _ => rfl⟩
  simp only [hZ] at CJ q1 q2 q3
  have hok0 := hok 0
  have hee : Chart.raw (m ++ [(p, 0)]) = Chart.raw m ++ [((p.val : Int), 0)] := by rw [Chart.raw_append]; rfl
  rw [hee] at hok0
  obtain ⟨z0, hz0⟩ : ∃ z, z = Z 0 := ⟨_, rfl⟩
  obtain ⟨z1, hz1⟩ : ∃ z, z = Z 1 := ⟨_, rfl⟩
  have C0 : ∀ w, Sv w.heap.size w v0 (Chart.raw m) → Calls Tryd.prog 21 #[v0, fv p, .int .i64 0] w fun e w' => e = two (z0.val : Nat) 0 ∧ Below w.heap.size w w' := by rw [hz0]; exact CJ 0
  have C1 : ∀ w, Sv w.heap.size w v0 (Chart.raw m) → Calls Tryd.prog 21 #[v0, fv p, .int .i64 1] w fun e w' => e = two (z1.val : Nat) 0 ∧ Below w.heap.size w w' := by rw [hz1]; exact CJ 1
  rw [← hz0, ← hz1] at q1 q2 q3
  have D1 := fsubF z1 z0
  have D3 := fsubF s z0
  obtain ⟨sl, hsl⟩ : ∃ x, x = z1 - z0 := ⟨_, rfl⟩
  rw [← hsl] at D1 q1 q2 q3
  have D2 := finvF_ok sl q1
  obtain ⟨iv, hiv⟩ : ∃ x, x = Chart.inv sl := ⟨_, rfl⟩
  rw [← hiv] at D2 q2 q3
  obtain ⟨rs, hrs⟩ : ∃ x, x = s - z0 := ⟨_, rfl⟩
  rw [← hrs] at D3 q2 q3
  have D4 := fmulF rs iv
  obtain ⟨y, hy⟩ : ∃ x, x = rs * iv := ⟨_, rfl⟩
  rw [← hy] at D4 q2 q3
  have C2 := CJ y
  rw [q2] at C2
  have C3 := CJ o
  obtain ⟨zo, hzo⟩ : ∃ x, x = Z o := ⟨_, rfl⟩
  rw [← hzo] at C3 q3
  have f1 := Chart.beq_val zo s
  have f2 := Chart.beq_val o y
  rw [q3] at f1
  obtain ⟨bb, hbb⟩ : ∃ b, b = (o == y) := ⟨_, rfl⟩
  rw [← hbb] at f1 f2
  obtain ⟨a0, c0, h0, -, -⟩ := hS.shape
  obtain ⟨n, hn⟩ : ∃ n, n = (Chart.raw m).length := ⟨_, rfl⟩
  rw [← hn] at h0
  rw [Chart.raw_length] at hn
  rw [← hn] at hlen
  have Hn := Lib.hid (show n = (Chart.raw m).length by rw [Chart.raw_length]; exact hn)
  subst h0
  have HE := Lib.hid (shErr_ok hok0)
  replace C0 := Lib.hid C0
  replace C1 := Lib.hid C1
  replace C2 := Lib.hid C2
  replace C3 := Lib.hid C3
  replace D1 := Lib.hid D1
  replace D2 := Lib.hid D2
  replace D3 := Lib.hid D3
  replace D4 := Lib.hid D4
  obtain ⟨P, hP⟩ : ∃ P : Int, P = (p.val : Int) := ⟨_, rfl⟩
  have hs1 : ¬ (s.val : Int) < 0 := by omega
  have hs2 : ¬ 2305843009213688669 ≤ (s.val : Int) := by have h9 : s.val < 2305843009213688669 := s.isLt; omega
  have ho1 : ¬ (o.val : Int) < 0 := by omega
  have ho2 : ¬ 2305843009213688669 ≤ (o.val : Int) := by have h9 : o.val < 2305843009213688669 := o.isLt; omega
  obtain ⟨S, hSS⟩ : ∃ S : Int, S = (s.val : Int) := ⟨_, rfl⟩
  obtain ⟨O, hOO⟩ : ∃ O : Int, O = (o.val : Int) := ⟨_, rfl⟩
  simp only [fv, ← hP, ← hSS, ← hOO] at *
  have F1 := Lib.hid (And.intro (Below.refl w.heap.size w) (And.intro hl hS))
  clear hS hl hn hok hok0 hee CJ hZ hz0 hz1 hsl hiv hrs hy hzo hbb q1 q2 q3 hP hSS hOO
  have hb : (n : Int) ≤ 11 := by omega
  go_enter Tryd.func5, Tryd.ntmps5
  go_wp2_with fail
  refine (sane_ok w F1.out.2.1).mono ?_
  rintro e v2 ⟨rfl, hB2⟩
  have F3 := Lib.hid (And.intro (F1.out.1.trans (hB2.mono F1.out.1.size)) (And.intro (F1.out.2.1.below hB2 F1.out.2.1.numLt F1.out.2.1.startLt) ((Sv.below F1.out.2.2 hB2).mono hB2.size)))
  clear hB2
  obtain ⟨u1, x1, u2, x2, E1, E2, hO, hB⟩ := append_both F3.out.2.2 (by rw [← Hn.out]; omega) P 0
  have CK := rcheck_any u2 _ x2 hO.view
  rw [HE.out] at CK
  replace CK := Lib.hid CK
  have F4 := Lib.hid (And.intro (F3.out.1.trans (hB.mono F3.out.1.size)) (And.intro (F3.out.2.1.below hB F3.out.2.1.numLt F3.out.2.1.startLt) ((Sv.below F3.out.2.2 hB).mono hB.size)))
  clear hO hB
  go_wp2_with fail
  refine (CK.out).mono ?_
  rintro e v5 ⟨rfl, hB5⟩
  have F6 := Lib.hid (And.intro (F4.out.1.trans (hB5.mono F4.out.1.size)) (And.intro (F4.out.2.1.below hB5 F4.out.2.1.numLt F4.out.2.1.startLt) ((Sv.below F4.out.2.2 hB5).mono hB5.size)))
  clear hB5
  go_wp2_with fail
  refine (C0.out v5 F6.out.2.2).mono ?_
  rintro e v7 ⟨rfl, hB7⟩
  have F8 := Lib.hid (And.intro (F6.out.1.trans (hB7.mono F6.out.1.size)) (And.intro (F6.out.2.1.below hB7 F6.out.2.1.numLt F6.out.2.1.startLt) ((Sv.below F6.out.2.2 hB7).mono hB7.size)))
  clear hB7
  go_wp2_with fail
  refine (C1.out v7 F8.out.2.2).mono ?_
  rintro e v9 ⟨rfl, hB9⟩
  have F10 := Lib.hid (And.intro (F8.out.1.trans (hB9.mono F8.out.1.size)) (And.intro (F8.out.2.1.below hB9 F8.out.2.1.numLt F8.out.2.1.startLt) ((Sv.below F8.out.2.2 hB9).mono hB9.size)))
  clear hB9
  go_wp2_with fail
  refine (D1.out v9).mono ?_
  rintro e v11 ⟨rfl, hB11⟩
  have F12 := Lib.hid (And.intro (F10.out.1.trans (hB11.mono F10.out.1.size)) (And.intro (F10.out.2.1.below hB11 F10.out.2.1.numLt F10.out.2.1.startLt) ((Sv.below F10.out.2.2 hB11).mono hB11.size)))
  clear hB11
  go_wp2_with fail
  refine (D2.out v11).mono ?_
  rintro e v13 ⟨rfl, hB13⟩
  have F14 := Lib.hid (And.intro (F12.out.1.trans (hB13.mono F12.out.1.size)) (And.intro (F12.out.2.1.below hB13 F12.out.2.1.numLt F12.out.2.1.startLt) ((Sv.below F12.out.2.2 hB13).mono hB13.size)))
  clear hB13
  go_wp2_with fail
  refine (D3.out v13).mono ?_
  rintro e v15 ⟨rfl, hB15⟩
  have F16 := Lib.hid (And.intro (F14.out.1.trans (hB15.mono F14.out.1.size)) (And.intro (F14.out.2.1.below hB15 F14.out.2.1.numLt F14.out.2.1.startLt) ((Sv.below F14.out.2.2 hB15).mono hB15.size)))
  clear hB15
  go_wp2_with fail
  refine (D4.out v15).mono ?_
  rintro e v17 ⟨rfl, hB17⟩
  have F18 := Lib.hid (And.intro (F16.out.1.trans (hB17.mono F16.out.1.size)) (And.intro (F16.out.2.1.below hB17 F16.out.2.1.numLt F16.out.2.1.startLt) ((Sv.below F16.out.2.2 hB17).mono hB17.size)))
  clear hB17
  go_wp2_with fail
  refine (C2.out v17 F18.out.2.2).mono ?_
  rintro e v19 ⟨rfl, hB19⟩
  have F20 := Lib.hid (And.intro (F18.out.1.trans (hB19.mono F18.out.1.size)) (And.intro (F18.out.2.1.below hB19 F18.out.2.1.numLt F18.out.2.1.startLt) ((Sv.below F18.out.2.2 hB19).mono hB19.size)))
  clear hB19
  go_wp2_with fail
  refine (C3.out v19 F20.out.2.2).mono ?_
  rintro e v21 ⟨rfl, hB21⟩
  have F22 := Lib.hid (And.intro (F20.out.1.trans (hB21.mono F20.out.1.size)) (And.intro (F20.out.2.1.below hB21 F20.out.2.1.numLt F20.out.2.1.startLt) ((Sv.below F20.out.2.2 hB21).mono hB21.size)))
  clear hB21
  go_wp2_with fail
  all_goals
    go_ret
    exact ⟨by first | rfl | simp, F22.out.1⟩

theorem shide_walk (v0 : Value) (l : Chart.Rs) (a s o : Int) (w : World) (hS : Sv w.heap.size w v0 l) (_ : l.length ≤ maxLen) (hl : Laid w) :
    Calls Tryd.prog 5 #[v0, .int .i64 a, .int .i64 s, .int .i64 o] w fun e w' => e = .returned (.bool true) ∧ Below w.heap.size w w' := by
  by_cases hlen : 11 < l.length
  · exact shide_long v0 l a s o w hS hl hlen
  cases hok : Chart.okS (l ++ [(a, 0)])
  · exact shide_bad v0 l a s o w hS hl (by omega) hok
  by_cases hout : s < 0 ∨ 2305843009213688669 ≤ s ∨ o < 0 ∨ 2305843009213688669 ≤ o
  · exact shide_out v0 l a s o w hS hl (by omega) hok hout
  obtain ⟨m, p, rfl, rfl, hall⟩ := Chart.hide_split hok
  obtain ⟨x, rfl⟩ := Int.eq_ofNat_of_zero_le (show 0 ≤ s by omega)
  obtain ⟨y, rfl⟩ := Int.eq_ofNat_of_zero_le (show 0 ≤ o by omega)
  have hx : x < Chart.Q := by rw [Q_eq]; omega
  have hy : y < Chart.Q := by rw [Q_eq]; omega
  have e1 : ((x : Nat) : Int) = ((Chart.fx x).val : Int) := by rw [Chart.fx_val hx]
  have e2 : ((y : Nat) : Int) = ((Chart.fx y).val : Int) := by rw [Chart.fx_val hy]
  show Calls _ _ #[_, _, .int .i64 ((x : Nat) : Int), .int .i64 ((y : Nat) : Int)] _ _
  rw [e1, e2]
  exact shide_ok v0 m p (Chart.fx x) (Chart.fx y) w hS hl (by rw [Chart.raw_length] at hlen; omega) hall

end Go.Proofs.YtgklcfipgdbbgaaDoor
