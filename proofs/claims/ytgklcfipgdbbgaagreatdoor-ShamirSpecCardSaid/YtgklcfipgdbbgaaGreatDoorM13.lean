/- shamir.isScalar, Check, placeOf, collect. -/
import Derived.Test.YtgklcfipgdbbgaaGreatDoorM12
namespace Go.Proofs.YtgklcfipgdbbgaaGreatDoor
open Go.RowKit
attribute [-go_sem] Builtin.append_

theorem isScalar_any (x : Int) (w : World) : Calls Tryz.prog 15 #[.int .i64 x] w fun e w' => e = .returned (.bool (!outB x)) ∧ Below w.heap.size w w' := by
  cases h : outB x
  all_goals
    have C := Lib.hid (fcheck_any x w)
    rw [h] at C
    go_enter Tryz.func15, Tryz.ntmps15
    go_wp2_with fail
    refine C.out.mono ?_
    rintro e w1 ⟨rfl, hB⟩
    go_wp2_with fail
    go_ret
    exact ⟨rfl, hB⟩

/-- The share as the code tests it. -/
theorem okAt_out (last : Int) (s : Int × Int) : Chart.okAt last s = (!decide (s.1 ≤ last) && !decide (s.1 > 64) && !outB s.2) := by
  rw [Bool.eq_iff_iff, Chart.okAt_true]
  have hQ := Q_eq
  unfold outB
  simp only [Bool.and_eq_true, Bool.not_eq_true', decide_eq_false_iff_not, Bool.or_eq_false_iff, hQ]
  omega

theorem okFrom_drop (l : Chart.Rs) (last : Int) {k : Nat} (h : k < l.length) : Chart.okFrom last (l.drop k) = (Chart.okAt last l[k] && Chart.okFrom l[k].1 (l.drop (k + 1))) := by
  rw [List.drop_eq_getElem_cons h]
  rfl

set_option maxRecDepth 20000 in
theorem scheck_at (l : Chart.Rs) (g off cap : Nat) (h1 : 1 ≤ l.length) (h2 : l.length ≤ 64) (w : World) (hS : SAt w g off l) (hg : g < w.heap.size) :
    Calls Tryz.prog 11 #[.slice (some ⟨g, off, none⟩) l.length cap] w fun e w' => e = .returned (.int .i64 (if Chart.okFrom 0 l then 0 else 80)) ∧ Below w.heap.size w w' := by
  obtain ⟨n, hn⟩ : ∃ n, n = l.length := ⟨_, rfl⟩
  rw [← hn] at h1 h2 ⊢
  obtain ⟨z, hz⟩ : ∃ z : Int, z = if Chart.okFrom 0 l then 0 else 80 := ⟨_, rfl⟩
  rw [← hz]
  have H := Lib.hid (And.intro hS (And.intro hn hz))
  clear hS hn hz
  go_enter Tryz.func11, Tryz.ntmps11
  go_wp2_with fail
  go_loopw [3, 16] (fun last i wr => ∃ (t : Nat) (p : Int), t ≤ n ∧ i = .int .i64 t ∧ last = .int .i64 p ∧ Hid (Below w.heap.size w wr ∧ Chart.okFrom 0 l = Chart.okFrom p (l.drop t))) (fun _ i _ => n - (intOf i).toNat)
  case atStart => exact ⟨0, 0, by omega, rfl, rfl, Lib.hid ⟨Below.refl _ _, rfl⟩⟩
  case round =>
    obtain ⟨t, p, ht, rfl, rfl, hB⟩ := hrel
    by_cases hlt : t < n
    · obtain ⟨x, hx⟩ : ∃ x, x = l[t]'(by have := H.out.2.1; omega) := ⟨_, rfl⟩
      have hc := H.out.1.below hB.out.1 hg t (by have := H.out.2.1; omega)
      have hd := okFrom_drop l p (k := t) (by have := H.out.2.1; omega)
      rw [← hx] at hc hd
      rw [okAt_out] at hd
      obtain ⟨a, y⟩ := x
      dsimp only at hc hd
      obtain ⟨k0, k1⟩ := hc
      have HD := Lib.hid (hB.out.2.trans hd)
      clear hd hx
      by_cases b1 : a ≤ p
      · have hz : z = 80 := by rw [H.out.2.2, HD.out]; simp [b1]
        go_wp2_with fail
        go_ret
        exact ⟨by first | rfl | (rw [hz]; rfl), hB.out.1.alloc hB.out.1.size _⟩
      · by_cases b2 : a > 64
        · have hz : z = 80 := by rw [H.out.2.2, HD.out]; simp [b2]
          go_wp2_with fail
          go_ret
          exact ⟨by first | rfl | (rw [hz]; rfl), hB.out.1.alloc hB.out.1.size _⟩
        · have hBa := hB.out.1.alloc hB.out.1.size (.cells #[.int .i64 a, .int .i64 y] 36)
          cases ho : outB y
          · have HZ := Lib.hid (show Chart.okFrom 0 l = Chart.okFrom a (l.drop (t + 1)) by rw [HD.out, ho]; simp [b1, b2])
            have C := Lib.hid (isScalar_any y (wr.alloc (.cells #[.int .i64 a, .int .i64 y] 36)))
            rw [ho] at C
            have HA := Lib.hid hBa
            clear hBa
            go_wp2_with fail
            refine C.out.mono ?_
            rintro e w2 ⟨rfl, hB2⟩
            have HB := Lib.hid (HA.out.trans (hB2.mono HA.out.size))
            have k2 : w2.cell? ⟨wr.heap.size, 0, none⟩ = some (.int .i64 a) := by rw [(bcell hB2).1 _ _ (by simp), cell_new]; rfl
            clear hB2
            go_wp2_with fail
            exact ⟨⟨t + 1, a, by omega, by go_num, rfl, Lib.hid ⟨HB.out, HZ.out⟩⟩, by simp [intOf]; omega⟩
          · have hz : z = 80 := by rw [H.out.2.2, HD.out, ho]; simp
            have C := Lib.hid (isScalar_any y (wr.alloc (.cells #[.int .i64 a, .int .i64 y] 36)))
            rw [ho] at C
            have HA := Lib.hid hBa
            clear hBa
            go_wp2_with fail
            refine C.out.mono ?_
            rintro e w2 ⟨rfl, hB2⟩
            have HB := Lib.hid (HA.out.trans (hB2.mono HA.out.size))
            clear hB2
            go_wp2_with fail
            go_ret
            exact ⟨by first | rfl | (rw [hz]; rfl), HB.out⟩
    · obtain rfl : t = n := by omega
      have hz : z = 0 := by rw [H.out.2.2, hB.out.2, List.drop_of_length_le (by have := H.out.2.1; omega)]; rfl
      go_wp2_with fail
      go_ret
      exact ⟨by first | rfl | (rw [hz]; rfl), hB.out.1⟩

/-- What Check answers. -/
def shErr (l : Chart.Rs) : Int := if Chart.okS l then 0 else 80

theorem shErr_out (l : Chart.Rs) (h : l.length < 1 ∨ 64 < l.length) : shErr l = 80 := by
  unfold shErr
  rw [if_neg]
  rw [Chart.okS_true]
  omega
theorem shErr_in (l : Chart.Rs) (h1 : 1 ≤ l.length) (h2 : l.length ≤ 64) : shErr l = if Chart.okFrom 0 l then 0 else 80 := by
  unfold shErr Chart.okS
  rw [decide_eq_true h1, decide_eq_true h2]
  rfl

theorem scheck_out (a : Option Addr) (n cap : Nat) (h : n < 1 ∨ 64 < n) (w : World) :
    Calls Tryz.prog 11 #[.slice a n cap] w fun e w' => e = .returned (.int .i64 80) ∧ w = w' := by
  by_cases h1 : n < 1
  · obtain rfl : n = 0 := by omega
    clear h h1
    go_enter Tryz.func11, Tryz.ntmps11
    go_wp2_with fail
    go_ret
    exact ⟨rfl, rfl⟩
  · have h2 : 64 < n := by omega
    clear h
    go_enter Tryz.func11, Tryz.ntmps11
    go_wp2_with fail
    go_ret
    exact ⟨rfl, rfl⟩

theorem scheck_any (v : Value) (l : Chart.Rs) (w : World) (hS : Sv w.heap.size w v l) :
    Calls Tryz.prog 11 #[v] w fun e w' => e = .returned (.int .i64 (shErr l)) ∧ Below w.heap.size w w' := by
  obtain ⟨a, cap, rfl, hc, hx⟩ := hS.shape
  by_cases h : l.length < 1 ∨ 64 < l.length
  · rw [shErr_out l h]
    refine (scheck_out a l.length cap h w).mono ?_
    rintro e w' ⟨rfl, rfl⟩
    exact ⟨rfl, Below.refl _ _⟩
  · obtain ⟨g, off, rfl, hg, hS⟩ := hx (by intro h0; subst h0; simp at h)
    rw [shErr_in l (by omega) (by omega)]
    exact scheck_at l g off cap (by omega) (by omega) w hS hg

theorem placeOf_any (a y : Int) (w : World) : Calls Tryz.prog 28 #[.agg #[.int .i64 a, .int .i64 y]] w fun e w' => e = .returned (.int .i64 a) ∧ Below w.heap.size w w' := by
  go_enter Tryz.func28, Tryz.ntmps28
  go_wp2_with fail
  go_ret
  exact ⟨rfl, (Below.refl _ _).alloc (Nat.le_refl _) _⟩

/-- The numbers, in a row of their own, and all old memory as it was. -/
def MadeI (B : Nat) (l : List Int) (w : World) (e : Ending) (w' : World) : Prop := ∃ v, e = .returned v ∧ OwnI B w' v l ∧ Below B w w'

set_option maxRecDepth 20000 in
theorem collect_at (l : Chart.Rs) (g off cap : Nat) (h1 : 1 ≤ l.length) (h2 : l.length ≤ 64) (w : World) (hS : SAt w g off l) (hg : g < w.heap.size) :
    Calls Tryz.prog 27 #[.slice (some ⟨g, off, none⟩) l.length cap, .func (.func 28) #[] #[]] w (MadeI w.heap.size (l.map Prod.fst) w) := by
  obtain ⟨n, hn⟩ : ∃ n, n = l.length := ⟨_, rfl⟩
  rw [← hn] at h1 h2 ⊢
  have H := Lib.hid (And.intro hS hn)
  clear hS hn
  go_enter Tryz.func27, Tryz.ntmps27
  go_wp2_with fail
  go_loopw [4, 9] (fun v i wr => ∃ (t : Nat), t ≤ n ∧ i = .int .i64 t ∧ Hid (Below w.heap.size w wr ∧ OwnI w.heap.size wr v ((l.take t).map Prod.fst))) (fun _ i _ => n - (intOf i).toNat)
  case atStart => exact ⟨0, by omega, rfl, Lib.hid ⟨Below.refl _ _, OwnI.nil _ _⟩⟩
  case round =>
    obtain ⟨t, ht, rfl, hB⟩ := hrel
    by_cases hlt : t < n
    · obtain ⟨x, hx⟩ : ∃ x, x = l[t]'(by have := H.out.2; omega) := ⟨_, rfl⟩
      have hc := H.out.1.below hB.out.1 hg t (by have := H.out.2; omega)
      have hd := List.take_succ_eq_append_getElem (l := l) (i := t) (by have := H.out.2; omega)
      rw [← hx] at hc hd
      obtain ⟨a, y⟩ := x
      dsimp only at hc hd
      obtain ⟨k0, k1⟩ := hc
      have HD := Lib.hid hd
      clear hd hx
      obtain ⟨w1, hw1⟩ : ∃ x, x = wr.alloc (.cells #[.int .i64 a, .int .i64 y] 36) := ⟨_, rfl⟩
      have hB1 : Below wr.heap.size wr w1 := by rw [hw1]; exact (Below.refl _ _).alloc (Nat.le_refl _) _
      have C := Lib.hid (placeOf_any a y w1)
      have hO1 := hB.out.2.below hB1 (Nat.le_refl _)
      have HB := Lib.hid (And.intro (hB.out.1.trans (hB1.mono hB.out.1.size)) hO1)
      rw [hw1] at C
      have Hw1 := Lib.hid hw1
      clear hw1 hB1 hO1
      go_wp2_with fail
      refine C.out.mono ?_
      rintro e w2 ⟨rfl, hB2⟩
      rw [← Hw1.out] at hB2
      have hB2' := HB.out.1.trans (hB2.mono HB.out.1.size)
      obtain ⟨v3, w3, E3, hO3, hG3⟩ := append_int (HB.out.2.below hB2 (Nat.le_refl _)) hB2'.size (by simp; omega) a 3
      have HB3 := Lib.hid (And.intro (hB2'.trans (hG3.belowI (HB.out.2.below hB2 (Nat.le_refl _)) hB2'.size)) hO3)
      clear hB2 hB2' hO3 hG3
      go_wp2_with fail
      refine ⟨⟨t + 1, by omega, by go_num, Lib.hid ⟨HB3.out.1, ?_⟩⟩, by simp [intOf]; omega⟩
      rw [HD.out, List.map_append]
      exact HB3.out.2
    · obtain rfl : t = n := by omega
      go_wp2_with fail
      go_ret
      have := hB.out.2
      rw [List.take_of_length_le (by have := H.out.2; omega)] at this
      exact ⟨_, rfl, this, hB.out.1⟩
end Go.Proofs.YtgklcfipgdbbgaaGreatDoor
