/- chartroomlaw11.ProxyTurnSpec, walked. -/
import Derived.Test.YtejjincnghmbbaaDoorM24
import Derived.Test.YtejjincnghmbbaaDoorMRf11
import Derived.Test.YtejjincnghmbbaaDoorMLprd
namespace Go.Proofs.YtejjincnghmbbaaDoor
open Go.RowKit

theorem factor_both (x y : Int) : ∃ v e : Int, (∀ w, Calls Tryd.prog 10 #[.int .i64 x, .int .i64 y] w fun r w' => r = two v e ∧ Below w.heap.size w w') ∧
    (∀ w, Calls Tryd.prog 11 #[.int .i64 x, .int .i64 y] w fun r w' => r = two v e ∧ w = w') := by
  rcases key_or x with h | ⟨a, rfl, ha0, ha⟩
  · exact ⟨0, 50, factor_bad x y (.inl h), rfactor_bad x y (.inl h)⟩
  · rcases key_or y with h | ⟨b, rfl, hb0, hb⟩
    · exact ⟨0, 50, factor_bad _ y (.inr h), rfactor_bad _ y (.inr h)⟩
    · exact ⟨_, _, factor_ok a b ha0 ha hb0 hb, rfactor_ok a b ha0 ha hb0 hb⟩

theorem turn_both (n A B : Int) (pad : List UInt8) (hp : pad.length = 32) : ∃ (A' B' : Int) (p : List UInt8) (e : Int), p.length = 32 ∧
    (∀ w, Calls Tryd.prog 12 #[.int .i64 n, .agg (capV A B pad).toArray] w fun r w' => r = .returned (.tuple #[.agg (capV A' B' p).toArray, .int .i64 e]) ∧ Below w.heap.size w w') ∧
    (∀ w, Calls Tryd.prog 13 #[.int .i64 n, .agg (capV A B pad).toArray] w fun r w' => r = .returned (.tuple #[.agg (capV A' B' p).toArray, .int .i64 e]) ∧ Below w.heap.size w w') := by
  rcases key_or n with h | ⟨k, rfl, hk0, hk⟩
  · exact ⟨0, 0, zeroPad, 50, rfl, turn_key n A B pad hp h, rturn_key n A B pad hp h⟩
  · have hQ := Q_eq
    by_cases hg : IsGrp A ∧ IsGrp B
    · obtain ⟨⟨a, rfl, ha⟩, ⟨b, rfl, hb⟩⟩ := hg
      exact ⟨_, _, pad, 0, hp, turn_ok k a b pad hp hk0 hk ha hb, rturn_ok k a b pad hp hk0 hk ha hb⟩
    · exact ⟨0, 0, zeroPad, 110, rfl, turn_cap k (by omega) (by omega) A B pad hp hg, rturn_cap k (by omega) (by omega) A B pad hp hg⟩

set_option maxRecDepth 20000 in
set_option maxHeartbeats 4000000 in
theorem turnspec_walk (x y n A B : Int) (pad : List UInt8) (hp : pad.length = 32) (w : World) (hl : Laid w) :
    Calls Tryd.prog 3 #[.int .i64 x, .int .i64 y, .int .i64 n, .agg (capV A B pad).toArray] w fun e w' => e = .returned (.bool true) ∧ Below w.heap.size w w' := by
  obtain ⟨v, e, Q1, Q2⟩ := factor_both x y
  obtain ⟨A', B', p, e', hp', T1, T2⟩ := turn_both n A B pad hp
  have EA := capEq A' B' p hp'
  obtain ⟨c, hc⟩ : ∃ a, a = capV A B pad := ⟨_, rfl⟩
  have hcl : c.length = 34 := by rw [hc]; exact capV_length _ _ hp
  have hc1 : ∀ x ∈ c, x.oneCell' = true := by rw [hc]; exact oneCell_cap _ _ _
  obtain ⟨d, hd⟩ : ∃ a, a = capV A' B' p := ⟨_, rfl⟩
  have hdl : d.length = 34 := by rw [hd]; exact capV_length _ _ hp'
  have hd1 : ∀ x ∈ d, x.oneCell' = true := by rw [hd]; exact oneCell_cap _ _ _
  rw [← hc] at T1 T2 ⊢
  rw [← hd] at T1 T2 EA
  clear hc hd hp hp'
  replace Q1 := Lib.hid Q1; replace Q2 := Lib.hid Q2; replace T1 := Lib.hid T1; replace T2 := Lib.hid T2
  obtain ⟨b1, hb1⟩ : ∃ x, x = w.alloc (.cells c.toArray 25) := ⟨_, rfl⟩
  have r1 : RowIs b1 (w.heap.size) 25 c := by
    rw [hb1]; exact RowIs.new w c _
  have hB0 : Below w.heap.size w b1 := by rw [hb1]; exact (Below.refl _ w).alloc (by first | exact Nat.le_refl _ | (simp; omega) | simp) _
  have F0 := Lib.hid (And.intro hB0 (And.intro (hl.below hB0 hl.numLt hl.startLt) r1))
  clear hB0 hl r1 
  go_enter Tryd.func3, Tryd.ntmps3
  go_upto_region 1 with fail
  rw [← hb1]
  clear hb1
  go_wp2_with fail
  refine (sane_ok b1 F0.out.2.1).mono ?_
  rintro e v1 ⟨rfl, hB1⟩
  have F2 := Lib.hid (And.intro (F0.out.1.trans (hB1.mono F0.out.1.size)) (And.intro (F0.out.2.1.below hB1 (Nat.lt_of_lt_of_le F0.out.2.1.numLt (Nat.le_refl _)) (Nat.lt_of_lt_of_le F0.out.2.1.startLt (Nat.le_refl _))) (F0.out.2.2.below hB1 F0.out.2.2.lt)))
  clear hB1
  go_wp2_with fail
  refine (Q1.out v1).mono ?_
  rintro e v3 ⟨rfl, hB3⟩
  have F4 := Lib.hid (And.intro (F2.out.1.trans (hB3.mono F2.out.1.size)) (And.intro (F2.out.2.1.below hB3 (Nat.lt_of_lt_of_le F2.out.2.1.numLt (Nat.le_refl _)) (Nat.lt_of_lt_of_le F2.out.2.1.startLt (Nat.le_refl _))) (F2.out.2.2.below hB3 F2.out.2.2.lt)))
  clear hB3
  go_wp2_with fail
  refine (Q2.out v3).mono ?_
  rintro e v5 ⟨rfl, rfl⟩
  have L6 := F4.out.2.2.loads (P := Tryd.prog) 34 hcl
  go_wp2_with fail
  refine (T1.out v3).mono ?_
  rintro e v7 ⟨rfl, hB7⟩
  have F8 := Lib.hid (And.intro (F4.out.1.trans (hB7.mono F4.out.1.size)) (And.intro (F4.out.2.1.below hB7 (Nat.lt_of_lt_of_le F4.out.2.1.numLt (Nat.le_refl _)) (Nat.lt_of_lt_of_le F4.out.2.1.startLt (Nat.le_refl _))) (F4.out.2.2.below hB7 F4.out.2.2.lt)))
  clear hB7
  obtain ⟨v9, S9, hR9, hB9⟩ := fresh_store (P := Tryd.prog) v7 25 #[.int .i64 0, .int .i64 0, .int .u8 0, .int .u8 0, .int .u8 0, .int .u8 0, .int .u8 0, .int .u8 0, .int .u8 0, .int .u8 0, .int .u8 0, .int .u8 0, .int .u8 0, .int .u8 0, .int .u8 0, .int .u8 0, .int .u8 0, .int .u8 0, .int .u8 0, .int .u8 0, .int .u8 0, .int .u8 0, .int .u8 0, .int .u8 0, .int .u8 0, .int .u8 0, .int .u8 0, .int .u8 0, .int .u8 0, .int .u8 0, .int .u8 0, .int .u8 0, .int .u8 0, .int .u8 0] d (by rw [hdl]; rfl) hd1
  have F10 := Lib.hid (And.intro (F8.out.1.trans (hB9.mono F8.out.1.size)) (And.intro (F8.out.2.1.below hB9 (Nat.lt_of_lt_of_le F8.out.2.1.numLt (Nat.le_refl _)) (Nat.lt_of_lt_of_le F8.out.2.1.startLt (Nat.le_refl _))) (And.intro (F8.out.2.2.below hB9 F8.out.2.2.lt) hR9)))
  clear hR9 hB9
  clear L6
  have L11 := F10.out.2.2.1.loads (P := Tryd.prog) 34 hcl
  go_wp2_with fail
  clear S9
  refine (T2.out v9).mono ?_
  rintro e v12 ⟨rfl, hB12⟩
  have F13 := Lib.hid (And.intro (F10.out.1.trans (hB12.mono F10.out.1.size)) (And.intro (F10.out.2.1.below hB12 (Nat.lt_of_lt_of_le F10.out.2.1.numLt (Nat.le_refl _)) (Nat.lt_of_lt_of_le F10.out.2.1.startLt (Nat.le_refl _))) (And.intro (F10.out.2.2.1.below hB12 F10.out.2.2.1.lt) (F10.out.2.2.2.below hB12 F10.out.2.2.2.lt))))
  clear hB12
  obtain ⟨v14, S14, hR14, hB14⟩ := fresh_store (P := Tryd.prog) v12 25 #[.int .i64 0, .int .i64 0, .int .u8 0, .int .u8 0, .int .u8 0, .int .u8 0, .int .u8 0, .int .u8 0, .int .u8 0, .int .u8 0, .int .u8 0, .int .u8 0, .int .u8 0, .int .u8 0, .int .u8 0, .int .u8 0, .int .u8 0, .int .u8 0, .int .u8 0, .int .u8 0, .int .u8 0, .int .u8 0, .int .u8 0, .int .u8 0, .int .u8 0, .int .u8 0, .int .u8 0, .int .u8 0, .int .u8 0, .int .u8 0, .int .u8 0, .int .u8 0, .int .u8 0, .int .u8 0] d (by rw [hdl]; rfl) hd1
  have F15 := Lib.hid (And.intro (F13.out.1.trans (hB14.mono F13.out.1.size)) (And.intro (F13.out.2.1.below hB14 (Nat.lt_of_lt_of_le F13.out.2.1.numLt (Nat.le_refl _)) (Nat.lt_of_lt_of_le F13.out.2.1.startLt (Nat.le_refl _))) (And.intro (F13.out.2.2.1.below hB14 F13.out.2.2.1.lt) (And.intro (F13.out.2.2.2.below hB14 F13.out.2.2.2.lt) hR14))))
  clear hR14 hB14
  clear L11
  have L16 := F15.out.2.2.2.1.loads (P := Tryd.prog) 34 hdl
  have L17 := F15.out.2.2.2.2.loads (P := Tryd.prog) 34 hdl
  go_wp2_with fail
  clear S14
  go_ret
  exact ⟨rfl, F15.out.1⟩
end Go.Proofs.YtejjincnghmbbaaDoor
