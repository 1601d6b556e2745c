/- chartroomref08.Fits. -/
import Derived.Test.YtgklcfipgdbbgaaDoorMRv8
import Derived.Test.YtgklcfipgdbbgaaDoorM15
namespace Go.Proofs.YtgklcfipgdbbgaaDoor
open Go.RowKit

theorem fits_idx (l : Chart.Sh) (need : Nat) : Chart.fits l need = true ↔ ∀ j (h : j < l.length), need ≤ j → Chart.val (l.take need) l[j].1 = l[j].2 := by
  rw [Chart.fits_true]
  constructor
  · intro h j hj hn
    refine h l[j] ?_
    rw [List.mem_iff_getElem]
    exact ⟨j - need, by rw [List.length_drop]; omega, by rw [List.getElem_drop]; congr 1; omega⟩
  · intro h s hs
    obtain ⟨j, hj, rfl⟩ := List.mem_iff_getElem.1 hs
    rw [List.getElem_drop]
    exact h (need + j) (by rw [List.length_drop] at hj; omega) (by omega)

theorem bne_valF (a b : Chart.F) : (((a.val : Int) != (b.val : Int)) = (a != b)) := by
  rw [Bool.eq_iff_iff, bne_iff_ne, bne_iff_ne]
  exact ⟨fun h1 h2 => h1 (by rw [h2]), fun h1 h2 => h1 (Fin.ext (by omega))⟩
theorem rfits_bad (l : Chart.Rs) (h : Chart.okS l = false) (need : Int) (v : Value) (w : World) (hS : Sv w.heap.size w v l) :
    Calls Tryd.prog 12 #[v, .int .i64 need] w fun e w' => e = twoB false 80 ∧ Below w.heap.size w w' := by
  obtain ⟨a, cap, hv, -, -⟩ := hS.shape
  have C1 := rcheck_any v l w hS
  rw [shErr_bad h] at C1
  replace C1 := Lib.hid C1
  subst hv
  clear hS h
  go_enter Tryd.func12, Tryd.ntmps12
  go_wp2_with fail
  refine C1.out.mono ?_
  rintro e w1 ⟨rfl, hB1⟩
  have H1 := Lib.hid hB1
  clear hB1
  go_wp2_with fail
  go_ret2
  exact ⟨rfl, H1.out⟩
theorem rfits_arg (l : Chart.Rs) (h : Chart.okS l = true) (need : Int) (hn : need < 1 ∨ 64 < need) (v : Value) (w : World) (hS : Sv w.heap.size w v l) :
    Calls Tryd.prog 12 #[v, .int .i64 need] w fun e w' => e = twoB false 1 ∧ Below w.heap.size w w' := by
  obtain ⟨a, cap, hv, -, -⟩ := hS.shape
  have C1 := rcheck_any v l w hS
  rw [shErr_ok h] at C1
  replace C1 := Lib.hid C1
  subst hv
  clear hS h
  by_cases b1 : need < 1
  · clear hn
    go_enter Tryd.func12, Tryd.ntmps12
    go_wp2_with fail
    refine C1.out.mono ?_
    rintro e w1 ⟨rfl, hB1⟩
    have H1 := Lib.hid hB1
    clear hB1
    go_wp2_with fail
    go_ret2
    exact ⟨rfl, H1.out⟩
  · have b2 : 64 < need := by omega
    clear hn
    go_enter Tryd.func12, Tryd.ntmps12
    go_wp2_with fail
    refine C1.out.mono ?_
    rintro e w1 ⟨rfl, hB1⟩
    have H1 := Lib.hid hB1
    clear hB1
    go_wp2_with fail
    go_ret2
    exact ⟨rfl, H1.out⟩

set_option maxRecDepth 20000 in
set_option maxHeartbeats 4000000 in
theorem rfits_ok (l : Chart.Sh) (h : Chart.okS (Chart.raw l) = true) (need : Nat) (n1 : 1 ≤ need) (n2 : need ≤ 64) (v : Value) (w : World) (hS : Sv w.heap.size w v (Chart.raw l)) :
    Calls Tryd.prog 12 #[v, .int .i64 (need : Nat)] w fun e w' => e = twoB (Chart.fits l need) 0 ∧ Below w.heap.size w w' := by
  have hG := Chart.good h
  have hg1 := hG.pos
  have hg2 := hG.few
  have C1 := rcheck_any v (Chart.raw l) w hS
  rw [shErr_ok h] at C1
  obtain ⟨a, cap, hv, hcap, hx⟩ := hS.shape
  obtain ⟨g, off, rfl, hg, hAt⟩ := hx (by intro h0; have := congrArg List.length h0; rw [Chart.raw_length] at this; rw [this] at hg1; simp at hg1)
  rw [Chart.raw_length] at hv hcap
  obtain ⟨b, hb⟩ : ∃ b, b = Chart.fits l need := ⟨_, rfl⟩
  have hidx := fits_idx l need
  rw [← hb] at hidx ⊢
  obtain ⟨n, hn⟩ : ∃ n, n = l.length := ⟨_, rfl⟩
  rw [← hn] at hg1 hg2 hv hcap
  subst hv
  replace C1 := Lib.hid C1
  have H := Lib.hid (And.intro hn (And.intro hidx (And.intro hAt (And.intro hg hcap))))
  clear hS hx hG h hn hidx hAt hg hb
  go_enter Tryd.func12, Tryd.ntmps12
  go_wp2_with fail
  refine C1.out.mono ?_
  rintro e w1 ⟨rfl, hB1⟩
  have H1 := Lib.hid hB1
  clear hB1 C1
  go_wp2_with fail
  go_loopw [7] (fun i wr => ∃ t : Nat, need ≤ t ∧ i = .int .i64 (t : Int) ∧ Hid (Below w.heap.size w wr ∧ (∀ j (h : j < l.length), need ≤ j → j < t → Chart.val (l.take need) l[j].1 = l[j].2))) (fun i _ => n - (intOf i).toNat)
  case atStart => exact ⟨need, Nat.le_refl _, rfl, Lib.hid ⟨H1.out, fun j h h1 h2 => absurd h1 (by omega)⟩⟩
  case round =>
    obtain ⟨t, ht, rfl, hB⟩ := hrel
    by_cases hlt : t < n
    · have htl : t < l.length := by have := H.out.1; omega
      have hA := H.out.2.2.1.below hB.out.1 H.out.2.2.2.1
      have ka := hA t (by rw [Chart.raw_length]; exact htl)
      rw [raw_at] at ka
      obtain ⟨s, hs⟩ : ∃ s, s = l[t] := ⟨_, rfl⟩
      rw [← hs] at ka
      have Hs := Lib.hid hs
      obtain ⟨p, y⟩ := s
      have k0 : wr.cell? ⟨g, off + t * 2, none⟩ = some (fv p) := ka.1
      have k1 : wr.cell? ⟨g, off + t * 2 + 1, none⟩ = some (fv y) := ka.2
      have hgw : g < wr.heap.size := cell_lt k0
      have hlt2 : (l.take need).length = need := by rw [List.length_take]; omega
      have CV := rvalue_at (l.take need) p g off cap (by omega) wr.drew (by rw [← Chart.raw_take]; exact (hA.take need)) hgw
      rw [hlt2] at CV
      obtain ⟨z, hz⟩ : ∃ z, z = Chart.val (l.take need) p := ⟨_, rfl⟩
      rw [← hz] at CV
      replace CV := Lib.hid CV
      have Hz := Lib.hid hz
      have hev := bne_valF z y
      have hnc : (need : Int) ≤ (cap : Int) := by have := H.out.2.2.2.2; omega
      have htn : (t : Int) < (n : Int) := by omega
      have HD := Lib.hid (show ∀ w2, Below wr.heap.size wr.drew w2 → w2.cell? ⟨g, off + t * 2 + 1, none⟩ = some (fv y) from fun w2 hb => by rw [(bcell hb).1 g _ hgw]; exact k1)
      have hBd := Lib.hid (hB.out.1.trans ((drew_below wr).mono hB.out.1.size))
      clear hA ka hs hgw hlt2 hz
      by_cases hzy : z = y
      · have hbb : (z != y) = false := by rw [hzy]; simp
        rw [hbb] at hev
        go_upto_region 9 with fail
        go_region_with
          (go_at_call 32
           refine CV.out.mono ?_
           rintro e w2 ⟨rfl, hB2⟩
           have q1 := HD.out w2 hB2
           have H2 := Lib.hid (hBd.out.trans (hB2.mono hBd.out.size))
           clear hB2)
        all_goals
          go_wp2_with fail
          refine ⟨⟨t + 1, by omega, by go_num, Lib.hid ⟨H2.out, ?_⟩⟩, by simp [intOf]; omega⟩
          intro j hj h1 h2
          by_cases hjt : j < t
          · exact hB.out.2 j hj h1 hjt
          · obtain rfl : j = t := by omega
            rw [← Hs.out]
            dsimp only
            rw [← Hz.out, hzy]
      · have hbb : (z != y) = true := by rw [bne_iff_ne]; exact hzy
        rw [hbb] at hev
        go_upto_region 9 with fail
        go_region_with
          (go_at_call 32
           refine CV.out.mono ?_
           rintro e w2 ⟨rfl, hB2⟩
           have q1 := HD.out w2 hB2
           have H2 := Lib.hid (hBd.out.trans (hB2.mono hBd.out.size))
           clear hB2)
        all_goals
          go_wp2_with fail
          go_ret2
          refine ⟨?_, H2.out⟩
          have hbf : b = false := by
            rw [Bool.eq_false_iff]
            intro hbt
            have h3 := H.out.2.1.1 hbt t htl ht
            rw [← Hs.out] at h3
            dsimp only at h3
            rw [← Hz.out] at h3
            exact hzy h3
          rw [hbf]
          rfl
    · have hb : b = true := by
        rw [H.out.2.1]
        intro j hj h1
        exact hB.out.2 j hj h1 (by have := H.out.1; omega)
      have htn : ¬ (t : Int) < (n : Int) := by omega
      subst hb
      go_wp2_with fail
      go_ret2
      exact ⟨rfl, hB.out.1⟩
end Go.Proofs.YtgklcfipgdbbgaaDoor
