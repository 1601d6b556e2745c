/- The reference's proxy (chartroomref11): Private, Check, Factor, Turn. -/
import Derived.Test.YtejjincnghmbbaaGreatDoorMRf4
import Derived.Test.YtejjincnghmbbaaGreatDoorM20
import Derived.Test.YtejjincnghmbbaaGreatDoorM18
import Derived.Test.YtejjincnghmbbaaGreatDoorM19
import Derived.Test.YtejjincnghmbbaaGreatDoorM21
namespace Go.Proofs.YtejjincnghmbbaaGreatDoor
open Go.RowKit

theorem rpriv_ok (x : Int) (h1 : 1 ≤ x) (h2 : x < 2305843009213688669) (w : World) : Calls Tryz.prog 37 #[.int .i64 x] w fun e w' => e = .returned (.bool true) ∧ w = w' := by
  go_enter Tryz.func37, Tryz.ntmps37
  go_wp2_with fail
  all_goals
    go_ret
    exact ⟨rfl, rfl⟩
theorem rpriv_bad (x : Int) (h : NoKey x) (w : World) : Calls Tryz.prog 37 #[.int .i64 x] w fun e w' => e = .returned (.bool false) ∧ w = w' := by
  rcases h with h | h
  · have h1 : ¬ 1 ≤ x := by omega
    go_enter Tryz.func37, Tryz.ntmps37
    go_wp2_with fail
    all_goals
      go_ret
      exact ⟨rfl, rfl⟩
  · have h1 : 1 ≤ x := by omega
    have h2 : ¬ x < 2305843009213688669 := by omega
    go_enter Tryz.func37, Tryz.ntmps37
    go_wp2_with fail
    all_goals
      go_ret
      exact ⟨rfl, rfl⟩

theorem rinv_any (a : Nat) (h0 : 0 < a) (ha : a < Chart.Q) (w : World) :
    Calls Tryz.prog 38 #[.int .i64 a] w fun e w' => e = two ((Chart.finv a : Nat) : Int) 0 ∧ w = w' := by
  unfold Chart.finv
  exact rinv_ok a h0 ha w

theorem rgcheck_code (x : Int) : ∃ r : Int, (r = 0 ↔ IsGrp x) ∧ ∀ w, Calls Tryz.prog 24 #[.int .i64 x] w fun e w' => e = .returned (.int .i64 r) ∧ w = w' := by
  by_cases h : IsGrp x
  · obtain ⟨n, rfl, hn⟩ := h
    exact ⟨0, by simp only [true_iff]; exact ⟨n, rfl, hn⟩, rcheck_ok n hn⟩
  · exact ⟨40, by simp [h], rcheck_bad x h⟩

set_option maxRecDepth 20000 in
theorem rpcheck_any (a b : Int) (pad : List UInt8) (ra rb : Int) (w : World)
    (ha : ∀ w, Calls Tryz.prog 24 #[.int .i64 a] w fun e w' => e = .returned (.int .i64 ra) ∧ w = w')
    (hb : ∀ w, Calls Tryz.prog 24 #[.int .i64 b] w fun e w' => e = .returned (.int .i64 rb) ∧ w = w') :
    Calls Tryz.prog 10 #[.agg (capV a b pad).toArray] w fun e w' => e = .returned (.int .i64 (if ra = 0 ∧ rb = 0 then 0 else 110)) ∧ Below w.heap.size w w' := by
  have Ha := Lib.hid ha
  have Hb := Lib.hid hb
  clear ha hb
  obtain ⟨d, hd⟩ : ∃ d, d = capV a b pad := ⟨_, rfl⟩
  rw [← hd]
  obtain ⟨w1, hw1⟩ : ∃ x, x = w.alloc (.cells d.toArray 25) := ⟨_, rfl⟩
  have hR1 : RowIs w1 w.heap.size 25 d := by rw [hw1]; exact RowIs.new w d _
  have hB1 : Below w.heap.size w w1 := by rw [hw1]; exact (Below.refl _ w).alloc (Nat.le_refl _) _
  have c0 : w1.cell? ⟨w.heap.size, 0, none⟩ = some (.int .i64 a) := (hR1.cell 0).trans (by rw [hd]; rfl)
  have c1 : w1.cell? ⟨w.heap.size, 1, none⟩ = some (.int .i64 b) := (hR1.cell 1).trans (by rw [hd]; rfl)
  have H1 := Lib.hid hB1
  clear hR1 hB1 hd
  go_enter Tryz.func10, Tryz.ntmps10
  go_upto_region 1 with fail
  rw [← hw1]
  clear hw1
  go_wp2_with fail
  refine (Ha.out w1).mono ?_
  rintro e w2 ⟨rfl, rfl⟩
  by_cases h0 : ra = 0
  · subst h0
    go_wp2_with fail
    refine (Hb.out w1).mono ?_
    rintro e w3 ⟨rfl, rfl⟩
    by_cases h1 : rb = 0
    · subst h1
      go_wp2_with fail
      go_ret
      exact ⟨rfl, H1.out⟩
    · have b1 : (rb != 0) = true := by rw [bne_iff_ne]; exact h1
      go_wp2_with fail
      go_ret
      exact ⟨by simp, H1.out⟩
  · have b1 : (ra != 0) = true := by rw [bne_iff_ne]; exact h0
    go_wp2_with fail
    go_ret
    exact ⟨by simp, H1.out⟩
theorem rpcheck_ok (a b : Nat) (pad : List UInt8) (ha : Grp a) (hb : Grp b) (w : World) :
    Calls Tryz.prog 10 #[.agg (capV a b pad).toArray] w fun e w' => e = .returned (.int .i64 0) ∧ Below w.heap.size w w' :=
  rpcheck_any a b pad 0 0 w (rcheck_ok a ha) (rcheck_ok b hb)
theorem rpcheck_bad (a b : Int) (pad : List UInt8) (h : ¬ (IsGrp a ∧ IsGrp b)) (w : World) :
    Calls Tryz.prog 10 #[.agg (capV a b pad).toArray] w fun e w' => e = .returned (.int .i64 110) ∧ Below w.heap.size w w' := by
  obtain ⟨ra, ha, ca⟩ := rgcheck_code a
  obtain ⟨rb, hb, cb⟩ := rgcheck_code b
  have := rpcheck_any a b pad ra rb w ca cb
  rw [if_neg (by rw [ha, hb]; exact h)] at this
  exact this
end Go.Proofs.YtejjincnghmbbaaGreatDoor
