/- chartroomref08.Value. -/
import Derived.Test.YtgklcfipgdbbgaaDoorMRff
import Derived.Test.YtgklcfipgdbbgaaDoorM14
import Derived.Test.YtgklcfipgdbbgaaDoorMRc8
namespace Go.Proofs.YtgklcfipgdbbgaaDoor
open Go.RowKit

theorem valTo_step (l : Chart.Sh) (x : Chart.F) {k : Nat} (h : k < l.length) : Chart.valTo l x (k + 1) = Chart.valTo l x k + l[k].2 * Chart.upTo (fun b => (x - b) * Chart.inv (l[k].1 - b)) (Chart.places l) k l.length := by
  have h1 := Chart.valTo_succ l x h
  have hp : k < (Chart.places l).length := by rw [Chart.places_length]; exact h
  have h2 := Chart.basis_ref (Chart.places l) k x l[k].2 hp
  rw [Chart.places_at l hp] at h2
  have key : ∀ N, N = (Chart.places l).length → Chart.valTo l x (k + 1) = Chart.valTo l x k + l[k].2 * Chart.upTo (fun b => (x - b) * Chart.inv (l[k].1 - b)) (Chart.places l) k N := by
    rintro N rfl
    rw [h1, ← h2]
  exact key l.length (Chart.places_length l).symm

set_option maxRecDepth 20000 in
set_option maxHeartbeats 4000000 in
theorem rvalue_at (l : Chart.Sh) (x : Chart.F) (g off cap : Nat) (h2 : l.length ≤ 64) (w : World) (hS : SAt w g off (Chart.raw l)) (hg : g < w.heap.size) :
    Calls Tryd.prog 32 #[.slice (some ⟨g, off, none⟩) l.length cap, fv x] w fun e w' => e = .returned (fv (Chart.val l x)) ∧ Below w.heap.size w w' := by
  obtain ⟨n, hn⟩ : ∃ n, n = l.length := ⟨_, rfl⟩
  rw [← hn] at h2 ⊢
  have hsl : ∀ i, i < n → ∀ W, Below w.heap.size w W → W.cell? ⟨g, off + i * 2, none⟩ = some (fv (l.getD i (0, 0)).1) ∧ W.cell? ⟨g, off + i * 2 + 1, none⟩ = some (fv (l.getD i (0, 0)).2) := by
    intro i hi W hB
    have h3 := (hS.below hB hg) i (by rw [Chart.raw_length]; omega)
    rw [raw_at] at h3
    rw [Chart.getD_at l (show i < l.length by omega)]
    exact h3
  have H := Lib.hid (And.intro hn hsl)
  clear hn hsl hS
  go_enter Tryd.func32, Tryd.ntmps32
  go_wp2_with fail
  go_loopw [5, 6] (fun s i wr => ∃ t : Nat, t ≤ n ∧ i = .int .i64 t ∧ s = fv (Chart.valTo l x t) ∧ Hid (Below w.heap.size w wr)) (fun _ i _ => n - (intOf i).toNat)
  case atStart => exact ⟨0, Nat.zero_le _, rfl, rfl, Lib.hid (Below.refl _ _)⟩
  case round =>
    obtain ⟨t, ht, rfl, rfl, hB⟩ := hrel
    by_cases hlt : t < n
    · have htl : t < l.length := by have := H.out.1; omega
      have hst := valTo_step l x htl
      have hct := fun W hB => H.out.2 t hlt W hB
      rw [Chart.getD_at l htl] at hct
      obtain ⟨sa, hsa⟩ : ∃ sa, sa = l[t] := ⟨_, rfl⟩
      rw [← hsa] at hst hct
      obtain ⟨a, y0⟩ := sa
      dsimp only at hst hct
      rw [← H.out.1] at hst
      have HC := Lib.hid (And.intro hst hct)
      have k1 := (hct wr hB.out).2
      have htn : (t : Int) < (n : Int) := by omega
      generalize Chart.valTo l x t = s at *
      clear hst hct hsa
      go_wp2_with fail
      go_loopw [7, 8] (fun y k wq => ∃ q : Nat, q ≤ n ∧ k = .int .i64 q ∧ y = fv (y0 * Chart.upTo (fun b => (x - b) * Chart.inv (a - b)) (Chart.places l) t q) ∧ Hid (Below w.heap.size w wq)) (fun _ k _ => n - (intOf k).toNat)
      case atStart =>
        refine ⟨0, Nat.zero_le _, rfl, ?_, hB⟩
        rw [Chart.upTo_zero]
        congr 2
        grind
      case round =>
        obtain ⟨q, hq, rfl, rfl, hQ⟩ := hrel
        by_cases hql : q < n
        · have hql' : q < l.length := by have := H.out.1; omega
          by_cases he : q = t
          · subst he
            go_wp2_with fail
            go_roundw
            case rel => exact ⟨q + 1, by omega, by go_num, by rw [Chart.upTo_skip], hQ⟩
            case measure => simp [intOf] <;> omega
          · have hne : ((q : Int) == (t : Int)) = false := beq_eq_false_iff_ne.2 (by omega)
            have hqp : q < (Chart.places l).length := by rw [Chart.places_length]; exact hql'
            have hs1 := Chart.upTo_step (fun b => (x - b) * Chart.inv (a - b)) (Chart.places l) hqp he
            rw [Chart.places_at l hqp] at hs1
            have c1 := (H.out.2 q hql wr hQ.out).1
            rw [Chart.getD_at l hql'] at c1
            have c2 := (HC.out.2 wr hQ.out).1
            have hqn : (q : Int) < (n : Int) := by omega
            generalize l[q].1 = b at *
            generalize Chart.upTo (fun b => (x - b) * Chart.inv (a - b)) (Chart.places l) t q = u at *
            have C1 := Lib.hid (rsubF x b)
            have C2 := Lib.hid (rsubF a b)
            have C3 := Lib.hid (rinvF (a - b))
            have C4 := Lib.hid (rmulF (y0 * u) (x - b))
            have C5 := Lib.hid (rmulF (y0 * u * (x - b)) (Chart.inv (a - b)))
            obtain ⟨p1, hp1⟩ : ∃ p, p = x - b := ⟨_, rfl⟩
            obtain ⟨p2, hp2⟩ : ∃ p, p = a - b := ⟨_, rfl⟩
            obtain ⟨p3, hp3⟩ : ∃ p, p = Chart.inv p2 := ⟨_, rfl⟩
            obtain ⟨p4, hp4⟩ : ∃ p, p = y0 * u * p1 := ⟨_, rfl⟩
            obtain ⟨p5, hp5⟩ : ∃ p, p = p4 * p3 := ⟨_, rfl⟩
            obtain ⟨yu, hyu⟩ : ∃ p, p = y0 * u := ⟨_, rfl⟩
            have hfin : y0 * Chart.upTo (fun b => (x - b) * Chart.inv (a - b)) (Chart.places l) t (q + 1) = p5 := by
              rw [hs1, hp5, hp4, hp3, hp1, hp2]; grind
            rw [← hp1] at C1
            rw [← hp2] at C2
            rw [← hp2, ← hp3] at C3
            rw [← hp1, ← hp4] at C4
            rw [← hp1, ← hp2, ← hp4, ← hp3, ← hp5] at C5
            rw [← hyu] at C4 ⊢
            have Hf := Lib.hid hfin
            clear hs1 hp1 hp2 hp3 hp4 hp5 hyu hfin he hqp
            go_wp2_with fail
            refine (C1.out _).mono ?_
            rintro e w1 ⟨rfl, rfl⟩
            go_wp2_with fail
            go_quiet (exact Calls.quiet_of_same (stillOf (C2.out _)))
            have hqq := Lib.hid (hQ.out.trans (show Below w.heap.size wr (wr.drewN nq) from Below.of_drewN _ _ _))
            go_wp2_with fail
            refine (C3.out _).mono ?_
            rintro e w1 ⟨⟨z, rfl⟩, rfl⟩
            go_wp2_with fail
            refine (C4.out _).mono ?_
            rintro e w1 ⟨rfl, rfl⟩
            go_wp2_with fail
            refine (C5.out _).mono ?_
            rintro e w1 ⟨rfl, rfl⟩
            go_wp2_with fail
            go_roundw
            case rel => exact ⟨q + 1, by omega, by go_num, by rw [Hf.out], hqq⟩
            case measure => simp [intOf] <;> omega
        · obtain rfl : q = n := by omega
          have C1 := Lib.hid (raddF s (y0 * Chart.upTo (fun b => (x - b) * Chart.inv (a - b)) (Chart.places l) t q))
          rw [← HC.out.1] at C1
          generalize y0 * Chart.upTo (fun b => (x - b) * Chart.inv (a - b)) (Chart.places l) t q = yy at *
          go_wp2_with fail
          refine (C1.out _).mono ?_
          rintro e w1 ⟨rfl, rfl⟩
          go_wp2_with fail
          go_roundw
          case rel => exact ⟨t + 1, by omega, by go_num, rfl, hQ⟩
          case measure => simp [intOf] <;> omega
    · obtain rfl : t = n := by omega
      go_wp2_with fail
      go_ret
      refine ⟨?_, hB.out⟩
      have e : Chart.valTo l x t = Chart.val l x := by rw [H.out.1]; exact Chart.valTo_all l x
      rw [← e]
      rfl
end Go.Proofs.YtgklcfipgdbbgaaDoor
