/- shamir.Sum of valid shares. -/
import Derived.Deep.RegionWith
import Derived.Test.YtgklcfipgdbbgaaGreatDoorM14
namespace Go.Proofs.YtgklcfipgdbbgaaGreatDoor
open Go.RowKit
attribute [-go_sem] Builtin.append_

theorem Sv.addr {B : Nat} {w : World} {a : Option Addr} {n cap : Nat} {l : Chart.Rs} (h : Sv B w (.slice a n cap) l) (hl : l ≠ []) : ∃ g off, a = some ⟨g, off, none⟩ ∧ g < B ∧ SAt w g off l := by
  obtain ⟨a', c', hv, _, hx⟩ := h.shape
  injection hv with e1 e2 e3
  subst e1
  exact hx hl
theorem nums_inj : ∀ {l m : List Chart.F}, nums l = nums m → l = m
  | [], [], _ => rfl
  | s :: l, t :: m, h => by
    have h' : (s.val : Int) :: nums l = (t.val : Int) :: nums m := h
    rw [List.cons.injEq] at h'
    have h1 : s = t := Fin.ext (by have := h'.1; omega)
    rw [h1, nums_inj h'.2]
  | [], _ :: _, h => by cases h
  | _ :: _, [], h => by cases h
theorem places_beq (a b : Chart.Sh) : ((Chart.raw a).map Prod.fst == (Chart.raw b).map Prod.fst) = decide (Chart.places a = Chart.places b) := by
  rw [raw_fst, raw_fst, Bool.eq_iff_iff, beq_iff_eq, decide_eq_true_eq]
  exact ⟨fun h => nums_inj h, fun h => by rw [h]⟩

set_option maxRecDepth 20000 in
theorem sum_ne (a b : Chart.Sh) (ha : Chart.okS (Chart.raw a) = true) (hb : Chart.okS (Chart.raw b) = true) (hne : Chart.places a ≠ Chart.places b) (v x : Value) (w : World) (hv : Sv w.heap.size w v (Chart.raw a)) (hx : Sv w.heap.size w x (Chart.raw b)) :
    Calls Tryz.prog 14 #[v, x] w fun e w' => e = noS 80 ∧ Below w.heap.size w w' := by
  obtain ⟨a1, c1, h1, -, -⟩ := hv.shape
  obtain ⟨a2, c2, h2, -, -⟩ := hx.shape
  obtain ⟨n1, hn1⟩ : ∃ n, n = (Chart.raw a).length := ⟨_, rfl⟩
  obtain ⟨n2, hn2⟩ : ∃ n, n = (Chart.raw b).length := ⟨_, rfl⟩
  rw [← hn1] at h1
  rw [← hn2] at h2
  have i0 := fun w => (index_pair v x w).1
  have i1 := fun w => (index_pair v x w).2
  have C1 := scheck_any v (Chart.raw a) w hv
  rw [shErr_ok ha] at C1
  replace C1 := Lib.hid C1
  have C2 := Lib.hid (fun w1 (hB : Below w.heap.size w w1) => scheck_any x (Chart.raw b) w1 ((hx.below hB).mono hB.size))
  rw [shErr_ok hb] at C2
  have ga := Chart.good ha
  have gb := Chart.good hb
  have la : (Chart.raw a).length = a.length := Chart.raw_length a
  have lb : (Chart.raw b).length = b.length := Chart.raw_length b
  have C3 := Lib.hid (fun w1 (hB : Below w.heap.size w w1) => collect_sv (Chart.raw a) v (by have := ga.pos; omega) (by have := ga.few; omega) w1 ((hv.below hB).mono hB.size))
  have C4 := Lib.hid (fun w1 (hB : Below w.heap.size w w1) => collect_sv (Chart.raw b) x (by have := gb.pos; omega) (by have := gb.few; omega) w1 ((hx.below hB).mono hB.size))
  have C5 := Lib.hid (fun w1 u y (hu : Iv w1.heap.size w1 u ((Chart.raw a).map Prod.fst)) (hy : Iv w1.heap.size w1 y ((Chart.raw b).map Prod.fst)) => equal_any _ _ (by rw [List.length_map]; have := ga.pos; omega) (by rw [List.length_map]; have := gb.pos; omega) (by rw [List.length_map]; have := ga.few; omega) (by rw [List.length_map]; have := gb.few; omega) u y w1 hu hy)
  rw [places_beq, decide_eq_false hne] at C5
  subst h1
  subst h2
  clear hv hx ha hb ga gb la lb hn1 hn2 hne
  go_enter Tryz.func14, Tryz.ntmps14
  go_wp2_with fail
  refine wp_loop_rounds 3 ?_
  rw [rounds_succ]
  go_wp2_with fail
  refine C1.out.mono ?_
  rintro e w1 ⟨rfl, hB1⟩
  have H1 := Lib.hid hB1
  clear hB1
  go_wp2_with fail
  rw [rounds_succ]
  go_wp2_with fail
  refine (C2.out w1 H1.out).mono ?_
  rintro e w2 ⟨rfl, hB2⟩
  have H2 := Lib.hid (H1.out.trans (hB2.mono H1.out.size))
  clear hB2
  go_wp2_with fail
  rw [rounds_succ]
  go_wp2_with fail
  refine (C3.out w2 H2.out).mono ?_
  rintro e w3 ⟨v3, rfl, hO3, hB3⟩
  have H3 := Lib.hid (H2.out.trans (hB3.mono H2.out.size))
  go_wp2_with fail
  refine (C4.out w3 H3.out).mono ?_
  rintro e w4 ⟨v4, rfl, hO4, hB4⟩
  have H4 := Lib.hid (H3.out.trans (hB4.mono H3.out.size))
  have C := Lib.hid (C5.out w4 v3 v4 ((hO3.below hB4 (Nat.le_refl _)).view) hO4.view)
  clear hO3 hO4 hB3 hB4
  go_wp2_with fail
  refine C.out.mono ?_
  rintro e w5 ⟨rfl, hB5⟩
  have H5 := Lib.hid (H4.out.trans (hB5.mono H4.out.size))
  clear hB5
  go_wp2_with fail
  go_ret2
  exact ⟨rfl, H5.out⟩
set_option maxRecDepth 20000 in
set_option maxHeartbeats 2000000 in
theorem sum_ok (a b : Chart.Sh) (ha : Chart.okS (Chart.raw a) = true) (hb : Chart.okS (Chart.raw b) = true) (heq : Chart.places a = Chart.places b) (v x : Value) (w : World) (hv : Sv w.heap.size w v (Chart.raw a)) (hx : Sv w.heap.size w x (Chart.raw b)) :
    Calls Tryz.prog 14 #[v, x] w fun e w' => ∃ u, e = .returned (.tuple #[u, .int .i64 0]) ∧ OwnS w.heap.size w' u (Chart.raw (Chart.sumSh a b)) ∧ Below w.heap.size w w' := by
  obtain ⟨a1, c1, h1, -, -⟩ := hv.shape
  obtain ⟨a2, c2, h2, -, -⟩ := hx.shape
  obtain ⟨n1, hn1⟩ : ∃ n, n = (Chart.raw a).length := ⟨_, rfl⟩
  obtain ⟨n2, hn2⟩ : ∃ n, n = (Chart.raw b).length := ⟨_, rfl⟩
  rw [← hn1] at h1
  rw [← hn2] at h2
  have i0 := fun w => (index_pair v x w).1
  have i1 := fun w => (index_pair v x w).2
  have C1 := scheck_any v (Chart.raw a) w hv
  rw [shErr_ok ha] at C1
  replace C1 := Lib.hid C1
  have C2 := Lib.hid (fun w1 (hB : Below w.heap.size w w1) => scheck_any x (Chart.raw b) w1 ((hx.below hB).mono hB.size))
  rw [shErr_ok hb] at C2
  have ga := Chart.good ha
  have gb := Chart.good hb
  have la : (Chart.raw a).length = a.length := Chart.raw_length a
  have lb : (Chart.raw b).length = b.length := Chart.raw_length b
  have C3 := Lib.hid (fun w1 (hB : Below w.heap.size w w1) => collect_sv (Chart.raw a) v (by have := ga.pos; omega) (by have := ga.few; omega) w1 ((hv.below hB).mono hB.size))
  have C4 := Lib.hid (fun w1 (hB : Below w.heap.size w w1) => collect_sv (Chart.raw b) x (by have := gb.pos; omega) (by have := gb.few; omega) w1 ((hx.below hB).mono hB.size))
  have C5 := Lib.hid (fun w1 u y (hu : Iv w1.heap.size w1 u ((Chart.raw a).map Prod.fst)) (hy : Iv w1.heap.size w1 y ((Chart.raw b).map Prod.fst)) => equal_any _ _ (by rw [List.length_map]; have := ga.pos; omega) (by rw [List.length_map]; have := gb.pos; omega) (by rw [List.length_map]; have := ga.few; omega) (by rw [List.length_map]; have := gb.few; omega) u y w1 hu hy)
  rw [places_beq, decide_eq_true heq] at C5
  have hlab : a.length = b.length := by rw [← Chart.places_length, ← Chart.places_length, heq]
  have hn1' : n1 = a.length := by omega
  have hn2' : n2 = a.length := by omega
  have hn12 : n2 = n1 := by omega
  subst hn12
  have hlen := Chart.sumSh_length heq
  have HS := Lib.hid (And.intro hn1' (And.intro hlab (And.intro hlen (And.intro hv hx))))
  have hfew : n2 ≤ 64 := by have := ga.few; omega
  subst h1
  subst h2
  clear hv hx ha hb ga gb la lb hn1 hn2 heq hn1' hn2' hlab hlen
  go_enter Tryz.func14, Tryz.ntmps14
  go_wp2_with fail
  refine wp_loop_rounds 3 ?_
  rw [rounds_succ]
  go_wp2_with fail
  refine C1.out.mono ?_
  rintro e w1 ⟨rfl, hB1⟩
  have H1 := Lib.hid hB1
  clear hB1
  go_wp2_with fail
  rw [rounds_succ]
  go_wp2_with fail
  refine (C2.out w1 H1.out).mono ?_
  rintro e w2 ⟨rfl, hB2⟩
  have H2 := Lib.hid (H1.out.trans (hB2.mono H1.out.size))
  clear hB2
  go_wp2_with fail
  rw [rounds_succ]
  go_wp2_with fail
  refine (C3.out w2 H2.out).mono ?_
  rintro e w3 ⟨v3, rfl, hO3, hB3⟩
  have H3 := Lib.hid (H2.out.trans (hB3.mono H2.out.size))
  go_wp2_with fail
  refine (C4.out w3 H3.out).mono ?_
  rintro e w4 ⟨v4, rfl, hO4, hB4⟩
  have H4 := Lib.hid (H3.out.trans (hB4.mono H3.out.size))
  have C := Lib.hid (C5.out w4 v3 v4 ((hO3.below hB4 (Nat.le_refl _)).view) hO4.view)
  clear hO3 hO4 hB3 hB4
  go_wp2_with fail
  refine C.out.mono ?_
  rintro e w5 ⟨rfl, hB5⟩
  have H5 := Lib.hid (H4.out.trans (hB5.mono H4.out.size))
  clear hB5
  clear C C1 C2 C3 C4 C5 H1 H2 H3
  go_wp2_with fail
  go_loopw [4, 33] (fun u i wr => ∃ t : Nat, t ≤ n2 ∧ i = .int .i64 t ∧ Hid (Below w.heap.size w wr ∧ OwnS w.heap.size wr u (Chart.raw ((Chart.sumSh a b).take t)))) (fun _ i _ => n2 - (intOf i).toNat)
  case atStart => exact ⟨0, Nat.zero_le _, rfl, Lib.hid ⟨H5.out, OwnS.nil _ _⟩⟩
  case round =>
    obtain ⟨t, ht, rfl, hB⟩ := hrel
    by_cases hlt : t < n2
    · obtain ⟨ga, oa, rfl, hga, hSa⟩ := HS.out.2.2.2.1.addr (by intro h0; have := congrArg List.length h0; rw [Chart.raw_length, ← HS.out.1] at this; simp at this; omega)
      obtain ⟨gb, ob, rfl, hgb, hSb⟩ := HS.out.2.2.2.2.addr (by intro h0; have := congrArg List.length h0; rw [Chart.raw_length, ← HS.out.2.1, ← HS.out.1] at this; simp at this; omega)
      have hta : t < a.length := by have := HS.out.1; omega
      have htb : t < b.length := by have := HS.out.1; have := HS.out.2.1; omega
      have hts : t < (Chart.sumSh a b).length := by have := HS.out.2.2.1; omega
      have ka := (hSa.below hB.out.1 hga) t (by rw [Chart.raw_length]; exact hta)
      have kb := (hSb.below hB.out.1 hgb) t (by rw [Chart.raw_length]; exact htb)
      rw [raw_at] at ka kb
      have hsum : (Chart.sumSh a b)[t] = (a[t].1, a[t].2 + b[t].2) := List.getElem_zipWith ..
      have hd := List.take_succ_eq_append_getElem (l := Chart.sumSh a b) (i := t) hts
      rw [hsum] at hd
      generalize a[t] = sa at *
      generalize b[t] = sb at *
      obtain ⟨p, y⟩ := sa
      obtain ⟨p', z⟩ := sb
      have k0 : wr.cell? ⟨ga, oa + t * 2, none⟩ = some (fv p) := ka.1
      have k1 : wr.cell? ⟨ga, oa + t * 2 + 1, none⟩ = some (fv y) := ka.2
      have k2 : wr.cell? ⟨gb, ob + t * 2 + 1, none⟩ = some (fv z) := kb.2
      dsimp only at hd
      obtain ⟨s, hs⟩ : ∃ s, s = y + z := ⟨_, rfl⟩
      rw [← hs] at hd
      have hd2 : Chart.raw ((Chart.sumSh a b).take (t + 1)) = Chart.raw ((Chart.sumSh a b).take t) ++ [((p.val : Int), (s.val : Int))] := by rw [hd, Chart.raw_append]; rfl
      have hl2 : (Chart.raw ((Chart.sumSh a b).take t)).length ≤ 64 := by rw [Chart.raw_length, List.length_take]; omega
      obtain ⟨w1, hw1⟩ : ∃ x, x = wr.alloc (.cells #[fv p, fv y] 36) := ⟨_, rfl⟩
      have hB1 : Below wr.heap.size wr w1 := by rw [hw1]; exact (Below.refl _ _).alloc (Nat.le_refl _) _
      have hR1 : RowIs w1 wr.heap.size 36 [fv p, fv y] := by rw [hw1]; exact RowIs.new wr _ _
      have q1 : w1.cell? ⟨wr.heap.size, 1, none⟩ = some (fv y) := hR1.cell 1
      have q2 : w1.cell? ⟨gb, ob + t * 2 + 1, none⟩ = some (fv z) := by rw [(bcell hB1).1 gb _ (Nat.lt_of_lt_of_le hgb hB.out.1.size)]; exact k2
      have hBd := hB1.trans ((drew_below w1).mono hB1.size)
      have C1 := Lib.hid (faddF y z)
      rw [← hs] at C1
      generalize Chart.raw ((Chart.sumSh a b).take t) = acc at *
      have HH := Lib.hid (And.intro hBd (And.intro hR1 (And.intro hd2 (And.intro hl2 (hB.out.2.below hBd (Nat.le_refl _))))))
      have ht64 : (t : Int) < (n2 : Int) := by omega
      clear hSa hSb ka kb hsum hd hs hd2 hl2 hB1 hR1 hBd k2 hta htb hts
      go_upto_region 13 with fail
      rw [← hw1]
      clear hw1 k0 k1
      go_region_with
        (go_at_call 29
         refine (C1.out w1.drew).mono ?_
         rintro e w2 ⟨rfl, hB2⟩
         have q3 : w2.cell? ⟨wr.heap.size, 0, none⟩ = some (fv p) := (HH.out.2.1.below ((drew_below w1).trans hB2) HH.out.2.1.lt).cell 0
         have hB3 := HH.out.1.trans (hB2.mono HH.out.1.size)
         have hO3 := HH.out.2.2.2.2.below (hB2.mono (Nat.le_refl _)) (Nat.le_refl _)
         obtain ⟨v4, w4, E4, hO4, hG4⟩ := append_share hO3 (Nat.le_trans hB.out.1.size hB3.size) (by have := HH.out.2.2.2.1; omega) (p.val : Int) (s.val : Int) 36
         have H4' := Lib.hid (And.intro hO4 (hB.out.1.trans ((hB3.mono hB.out.1.size).trans (hG4.belowS hO3 (Nat.le_trans hB.out.1.size hB3.size)))))
         clear hB2 hB3 hO3 hO4 hG4)
      all_goals
        go_wp2_with fail
        exact ⟨⟨t + 1, by omega, by go_num, Lib.hid ⟨H4'.out.2, by rw [HH.out.2.2.1]; exact H4'.out.1⟩⟩, by simp [intOf]; omega⟩
    · obtain rfl : t = n2 := by omega
      go_wp2_with fail
      go_ret2
      refine ⟨_, rfl, ?_, hB.out.1⟩
      have := hB.out.2
      rw [List.take_of_length_le (by have := HS.out.1; have := HS.out.2.2.1; omega)] at this
      exact this
end Go.Proofs.YtgklcfipgdbbgaaGreatDoor
