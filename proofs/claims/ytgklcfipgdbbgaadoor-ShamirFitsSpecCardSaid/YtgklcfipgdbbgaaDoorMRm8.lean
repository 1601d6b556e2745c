/- chartroomref08.Sum. -/
import Derived.Test.YtgklcfipgdbbgaaDoorMRv8
import Derived.Test.YtgklcfipgdbbgaaDoorM15
namespace Go.Proofs.YtgklcfipgdbbgaaDoor
open Go.RowKit
attribute [-go_sem] Builtin.append_

theorem bne_valF' (a b : Chart.F) : (((a.val : Int) != (b.val : Int)) = (a != b)) := by
  rw [Bool.eq_iff_iff, bne_iff_ne, bne_iff_ne]
  exact ⟨fun h1 h2 => h1 (by rw [h2]), fun h1 h2 => h1 (Fin.ext (by omega))⟩
theorem rsum_bad1 (a b : Chart.Rs) (ha : Chart.okS a = false) (v x : Value) (w : World) (hv : Sv w.heap.size w v a) (hx : Sv w.heap.size w x b) :
    Calls Tryd.prog 14 #[v, x] w fun e w' => e = noS 80 ∧ Below w.heap.size w w' := by
  obtain ⟨a1, c1, h1, -, -⟩ := hv.shape
  obtain ⟨a2, c2, h2, -, -⟩ := hx.shape
  have C1 := rcheck_any v a w hv
  rw [shErr_bad ha] at C1
  replace C1 := Lib.hid C1
  subst h1
  subst h2
  clear hv hx ha
  go_enter Tryd.func14, Tryd.ntmps14
  go_wp2_with fail
  refine C1.out.mono ?_
  rintro e w1 ⟨rfl, hB1⟩
  have H1 := Lib.hid hB1
  clear hB1
  go_wp2_with fail
  go_ret2
  exact ⟨rfl, H1.out⟩
theorem rsum_bad2 (a b : Chart.Rs) (ha : Chart.okS a = true) (hb : Chart.okS b = false) (v x : Value) (w : World) (hv : Sv w.heap.size w v a) (hx : Sv w.heap.size w x b) :
    Calls Tryd.prog 14 #[v, x] w fun e w' => e = noS 80 ∧ Below w.heap.size w w' := by
  obtain ⟨a1, c1, h1, -, -⟩ := hv.shape
  obtain ⟨a2, c2, h2, -, -⟩ := hx.shape
  have C1 := rcheck_any v a w hv
  rw [shErr_ok ha] at C1
  replace C1 := Lib.hid C1
  have C2 := Lib.hid (fun w1 (hB : Below w.heap.size w w1) => rcheck_any x b w1 ((hx.below hB).mono hB.size))
  rw [shErr_bad hb] at C2
  subst h1
  subst h2
  clear hv hx ha hb
  go_enter Tryd.func14, Tryd.ntmps14
  go_wp2_with fail
  refine C1.out.mono ?_
  rintro e w1 ⟨rfl, hB1⟩
  have H1 := Lib.hid hB1
  clear hB1
  go_wp2_with fail
  refine (C2.out w1 H1.out).mono ?_
  rintro e w2 ⟨rfl, hB2⟩
  have H2 := Lib.hid (H1.out.trans (hB2.mono H1.out.size))
  clear hB2
  go_wp2_with fail
  go_ret2
  exact ⟨rfl, H2.out⟩

/-- What Sum hands back of valid shares. -/
def SumOut (a b : Chart.Sh) (w : World) (e : Ending) (w' : World) : Prop :=
  ((Chart.places a = Chart.places b ∧ ∃ u, e = .returned (.tuple #[u, .int .i64 0]) ∧ OwnS w.heap.size w' u (Chart.raw (Chart.sumSh a b))) ∨ (Chart.places a ≠ Chart.places b ∧ e = noS 80)) ∧ Below w.heap.size w w'

set_option maxRecDepth 20000 in
set_option maxHeartbeats 4000000 in
theorem rsum_ok (a b : Chart.Sh) (ha : Chart.okS (Chart.raw a) = true) (hb : Chart.okS (Chart.raw b) = true) (v x : Value) (w : World) (hv : Sv w.heap.size w v (Chart.raw a)) (hx : Sv w.heap.size w x (Chart.raw b)) :
    Calls Tryd.prog 14 #[v, x] w (SumOut a b w) := by
  obtain ⟨a1, c1, h1, -, -⟩ := hv.shape
  obtain ⟨a2, c2, h2, -, -⟩ := hx.shape
  rw [Chart.raw_length] at h1 h2
  obtain ⟨n1, hn1⟩ : ∃ n, n = a.length := ⟨_, rfl⟩
  obtain ⟨n2, hn2⟩ : ∃ n, n = b.length := ⟨_, rfl⟩
  rw [← hn1] at h1
  rw [← hn2] at h2
  have C1 := rcheck_any v (Chart.raw a) w hv
  rw [shErr_ok ha] at C1
  replace C1 := Lib.hid C1
  have C2 := Lib.hid (fun w1 (hB : Below w.heap.size w w1) => rcheck_any x (Chart.raw b) w1 ((hx.below hB).mono hB.size))
  rw [shErr_ok hb] at C2
  have hfew : n1 ≤ 64 := by have := (Chart.good ha).few; omega
  have hpos : 1 ≤ n1 := by have := (Chart.good ha).pos; omega
  have hpos2 : 1 ≤ n2 := by have := (Chart.good hb).pos; omega
  subst h1
  subst h2
  have HS := Lib.hid (And.intro hn1 (And.intro hn2 (And.intro hv hx)))
  clear hv hx ha hb hn1 hn2
  obtain ⟨ga, oa, rfl, hga, hSa⟩ := HS.out.2.2.1.addr (by intro h0; have := congrArg List.length h0; rw [Chart.raw_length, ← HS.out.1] at this; simp at this; omega)
  obtain ⟨gb, ob, rfl, hgb, hSb⟩ := HS.out.2.2.2.addr (by intro h0; have := congrArg List.length h0; rw [Chart.raw_length, ← HS.out.2.1] at this; simp at this; omega)
  have HA := Lib.hid (And.intro hSa hSb)
  clear hSa hSb
  by_cases h12 : n1 = n2
  · subst h12
    have hlab : a.length = b.length := by rw [← HS.out.1, ← HS.out.2.1]
    have hslen : (Chart.sumSh a b).length = n1 := by unfold Chart.sumSh; rw [List.length_zipWith, ← HS.out.1, ← HS.out.2.1]; omega
    have HL := Lib.hid (And.intro hlab hslen)
    clear hlab hslen
    go_enter Tryd.func14, Tryd.ntmps14
    go_wp2_with fail
    refine C1.out.mono ?_
    rintro e w1 ⟨rfl, hB1⟩
    have H1 := Lib.hid hB1
    clear hB1
    go_wp2_with fail
    refine (C2.out w1 H1.out).mono ?_
    rintro e w2 ⟨rfl, hB2⟩
    have H2 := Lib.hid (H1.out.trans (hB2.mono H1.out.size))
    clear hB2 C1 C2
    go_wp2_with fail
    go_loopw [7, 8] (fun u i wr => ∃ t : Nat, t ≤ n1 ∧ i = .int .i64 t ∧ Hid (Below w.heap.size w wr ∧ OwnS w.heap.size wr u (Chart.raw ((Chart.sumSh a b).take t)) ∧ ∀ j (h : j < a.length) (h2 : j < b.length), j < t → a[j].1 = b[j].1)) (fun _ i _ => n1 - (intOf i).toNat)
    case atStart => exact ⟨0, Nat.zero_le _, rfl, Lib.hid ⟨H2.out, OwnS.nil _ _, fun j h h2 h3 => absurd h3 (by omega)⟩⟩
    case round =>
      obtain ⟨t, ht, rfl, hB⟩ := hrel
      by_cases hlt : t < n1
      · have hta : t < a.length := by have := HS.out.1; omega
        have htb : t < b.length := by have := HS.out.2.1; omega
        have hts : t < (Chart.sumSh a b).length := by have := HL.out.2; omega
        have ka := (HA.out.1.below hB.out.1 hga) t (by rw [Chart.raw_length]; exact hta)
        have kb := (HA.out.2.below hB.out.1 hgb) t (by rw [Chart.raw_length]; exact htb)
        rw [raw_at] at ka kb
        have hsum : (Chart.sumSh a b)[t] = (a[t].1, a[t].2 + b[t].2) := List.getElem_zipWith ..
        have hd := List.take_succ_eq_append_getElem (l := Chart.sumSh a b) (i := t) hts
        rw [hsum] at hd
        have hpl : Chart.places a = Chart.places b → a[t].1 = b[t].1 := by
          intro he
          have h1 := Chart.places_at a (i := t) (by rw [Chart.places_length]; exact hta)
          have h2 := Chart.places_at b (i := t) (by rw [Chart.places_length]; exact htb)
          rw [← h1, ← h2]
          congr 1
        have hnx : a[t].1 = b[t].1 → ∀ j (h : j < a.length) (h2 : j < b.length), j < t + 1 → a[j].1 = b[j].1 := by
          intro he j h h2 h3
          by_cases hj : j < t
          · exact hB.out.2.2 j h h2 hj
          · obtain rfl : j = t := by omega
            exact he
        generalize a[t] = sa at *
        generalize b[t] = sb at *
        obtain ⟨p, y⟩ := sa
        obtain ⟨p', z⟩ := sb
        have k0 : wr.cell? ⟨ga, oa + t * 2, none⟩ = some (fv p) := ka.1
        have k1 : wr.cell? ⟨ga, oa + t * 2 + 1, none⟩ = some (fv y) := ka.2
        have k2 : wr.cell? ⟨gb, ob + t * 2, none⟩ = some (fv p') := kb.1
        have k3 : wr.cell? ⟨gb, ob + t * 2 + 1, none⟩ = some (fv z) := kb.2
        dsimp only at hd hpl hnx
        have hev := bne_valF' p p'
        have ht64 : (t : Int) < (n1 : Int) := by omega
        by_cases hpp : p = p'
        · have hbb : (p != p') = false := by rw [hpp]; simp
          rw [hbb] at hev
          clear hbb
          obtain ⟨s, hs⟩ : ∃ s, s = y + z := ⟨_, rfl⟩
          rw [← hs] at hd
          have hd2 : Chart.raw ((Chart.sumSh a b).take (t + 1)) = Chart.raw ((Chart.sumSh a b).take t) ++ [((p.val : Int), (s.val : Int))] := by rw [hd, Chart.raw_append]; rfl
          have hl2 : (Chart.raw ((Chart.sumSh a b).take t)).length ≤ 64 := by rw [Chart.raw_length, List.length_take]; omega
          have C1 := Lib.hid (raddF y z)
          rw [← hs] at C1
          have HH := Lib.hid (And.intro hd2 (And.intro hl2 (hnx hpp)))
          subst hpp
          clear ka kb hsum hd hpl hnx hs hd2 hl2 hts hta htb
          go_wp2_with fail
          go_quiet (fail)
          obtain ⟨q0, hq0⟩ : ∃ q0, q0 = nq := ⟨_, rfl⟩
          rw [← hq0]
          clear hq0
          go_wp2_with fail
          go_quiet (exact quietNest (C1.out _))
          obtain ⟨w2, hw2⟩ : ∃ w2, w2 = (wr.drewN q0).drewN nq := ⟨_, rfl⟩
          have hBd : Below wr.heap.size wr w2 := by rw [hw2]; exact (Below.of_drewN _ _ _).trans (Below.of_drewN _ _ _)
          have hO3 := hB.out.2.1.below hBd (Nat.le_refl _)
          have hB3 := hB.out.1.trans (hBd.mono hB.out.1.size)
          have q1 : w2.cell? ⟨ga, oa + t * 2, none⟩ = some (fv p) := by rw [(bcell hBd).1 ga _ (cell_lt k0)]; exact k0
          obtain ⟨v4, w4, E4, hO4, hG4⟩ := append_share hO3 hB3.size (by have := HH.out.2.1; omega) (p.val : Int) (s.val : Int) 42
          have H4 := Lib.hid (And.intro (hB3.trans (hG4.belowS hO3 hB3.size)) hO4)
          rw [← hw2]
          clear hw2 hBd hO3 hB3 hO4 hG4
          go_wp2_with fail
          go_roundw
          case rel => exact ⟨t + 1, by omega, by go_num, Lib.hid ⟨H4.out.1, by rw [HH.out.1]; exact H4.out.2, HH.out.2.2⟩⟩
          case measure => simp [intOf] <;> omega
        · have hbb : (p != p') = true := by rw [bne_iff_ne]; exact hpp
          rw [hbb] at hev
          have Hp := Lib.hid (show Chart.places a ≠ Chart.places b from fun he => hpp (hpl he))
          clear ka kb hsum hd hpl hnx hts hta htb
          go_wp2_with fail
          go_quiet (fail)
          go_wp2_with fail
          go_ret2
          exact ⟨Or.inr ⟨Hp.out, rfl⟩, hB.out.1.trans (Below.of_drewN _ _ _)⟩
      · obtain rfl : t = n1 := by omega
        go_wp2_with fail
        go_ret2
        have hpe : Chart.places a = Chart.places b := by
          apply List.ext_getElem
          · rw [Chart.places_length, Chart.places_length]; exact HL.out.1
          · intro j h1 h2
            rw [Chart.places_at a h1, Chart.places_at b h2]
            rw [Chart.places_length] at h1 h2
            exact hB.out.2.2 j h1 h2 (by have := HS.out.1; omega)
        refine ⟨Or.inl ⟨hpe, _, rfl, ?_⟩, hB.out.1⟩
        have h5 := hB.out.2.1
        rw [List.take_of_length_le (by have := HL.out.2; omega)] at h5
        exact h5
  · have hb : ((n1 : Int) == (n2 : Int)) = false := beq_eq_false_iff_ne.2 (by omega)
    have Hp := Lib.hid (show Chart.places a ≠ Chart.places b from fun he => by
      have := congrArg List.length he
      rw [Chart.places_length, Chart.places_length] at this
      have h5 := HS.out.1
      have h6 := HS.out.2.1
      omega)
    go_enter Tryd.func14, Tryd.ntmps14
    go_wp2_with fail
    refine C1.out.mono ?_
    rintro e w1 ⟨rfl, hB1⟩
    have H1 := Lib.hid hB1
    clear hB1
    go_wp2_with fail
    refine (C2.out w1 H1.out).mono ?_
    rintro e w2 ⟨rfl, hB2⟩
    have H2 := Lib.hid (H1.out.trans (hB2.mono H1.out.size))
    clear hB2
    go_wp2_with fail
    go_ret2
    exact ⟨Or.inr ⟨Hp.out, rfl⟩, H2.out⟩
end Go.Proofs.YtgklcfipgdbbgaaDoor
