/- The chapter's examples in numbers. Plain. -/
import Derived.Test.YtgklcfipgdbbgaaGreatDoorM1
import Derived.Test.YtgklcfipgdbbgaaGreatDoorM22
import Derived.Test.YtgklcfipgdbbgaaGreatDoorM23
namespace Chart

def two : Sh := [(fx 1, fx 9), (fx 2, fx 11)]
def three : Sh := [(fx 1, fx 9), (fx 2, fx 11), (fx 3, fx 13)]
def odd : Sh := [(fx 1, fx 9), (fx 2, fx 11), (fx 3, fx 14)]
def dbl : Sh := [(fx 1, fx 18), (fx 2, fx 22)]
def far : Sh := [(fx 64, fx 5)]
theorem raw_two : raw two = [(1, 9), (2, 11)] := by decide +kernel
theorem raw_three : raw three = [(1, 9), (2, 11), (3, 13)] := by decide +kernel
theorem raw_odd : raw odd = [(1, 9), (2, 11), (3, 14)] := by decide +kernel
theorem raw_dbl : raw dbl = [(1, 18), (2, 22)] := by decide +kernel
theorem raw_far : raw far = [(64, 5)] := by decide +kernel
theorem ok_two : okS (raw two) = true := by decide +kernel
theorem ok_three : okS (raw three) = true := by decide +kernel
theorem ok_odd : okS (raw odd) = true := by decide +kernel
theorem ok_dbl : okS (raw dbl) = true := by decide +kernel
theorem ok_far : okS (raw far) = true := by decide +kernel
theorem on_line {l : Sh} {c : List F} (h : okS (raw l) = true) (hc : c.length ≤ l.length) (hs : ∀ s ∈ l, ev c s.1 = s.2) (x : F) : val l x = ev c x :=
  val_eq (good h).nodup (ev_poly c) hc hs x
theorem join_two : (val two 0).val = 7 := by
  rw [on_line (c := [fx 7, fx 2]) ok_two (by decide) (by decide +kernel)]
  decide +kernel
theorem join_dbl : (val dbl 0).val = 14 := by
  rw [on_line (c := [fx 14, fx 4]) ok_dbl (by decide) (by decide +kernel)]
  decide +kernel
theorem join_far : (val far 0).val = 5 := by
  rw [on_line (c := [fx 5]) ok_far (by decide) (by decide +kernel)]
  decide +kernel
theorem fits_three : fits three 2 = true := fits_poly (good ok_three).nodup (ev_poly [fx 7, fx 2]) (by decide +kernel)
theorem fits_odd : fits odd 2 = false := by
  have h : fits odd 2 = ((val two (fx 3) == fx 14) && true) := rfl
  rw [h, on_line (c := [fx 7, fx 2]) ok_two (by decide) (by decide +kernel)]
  decide +kernel
theorem sum_two : sumSh two two = dbl := by decide +kernel
theorem raw_split7 : raw (splitS [fx 7] 3) = [(1, 7), (2, 7), (3, 7)] := by decide +kernel
/-- Validity asks of the second parts only that they are elements of the field. -/
theorem okFrom_places : ∀ {l m : Sh} {a : Int}, places m = places l → okFrom a (raw l) = true → okFrom a (raw m) = true
  | [], [], _, _, _ => rfl
  | s :: l, t :: m, a, h, h1 => by
    have h' : t.1 :: places m = s.1 :: places l := h
    rw [List.cons.injEq] at h'
    have h1' : okFrom a (rawOf s :: raw l) = true := h1
    show okFrom a (rawOf t :: raw m) = true
    rw [okFrom_cons, okAt_true] at h1' ⊢
    have e : (rawOf t).1 = (rawOf s).1 := by unfold rawOf; rw [h'.1]
    refine ⟨⟨by rw [e]; exact h1'.1.1, by rw [e]; exact h1'.1.2.1, ?_, ?_⟩, by rw [e]; exact okFrom_places h'.2 h1'.2⟩
    · unfold rawOf; exact Int.natCast_nonneg _
    · unfold rawOf; have := t.2.isLt; exact Int.ofNat_lt.2 this
  | [], _ :: _, _, h, _ => by cases h
  | _ :: _, [], _, h, _ => by cases h
theorem okS_places {l m : Sh} (h : okS (raw l) = true) (hp : places m = places l) : okS (raw m) = true := by
  have hl := congrArg List.length hp
  rw [places_length, places_length] at hl
  rw [okS_true, raw_length] at h ⊢
  rw [hl]
  exact ⟨h.1, h.2.1, okFrom_places hp h.2.2⟩
end Chart

/- What the laws of shares use: append to a copy, few, a further share joined. -/
namespace Go.Proofs.YtgklcfipgdbbgaaGreatDoor
open Go.RowKit
attribute [-go_sem] Builtin.append_

/-- append(append([]Share{}, l...), s). -/
theorem append_both {w : World} {v : Value} {l : Chart.Rs} (hS : Sv w.heap.size w v l) (hl : l.length ≤ 1000) (a y : Int) :
    ∃ u1 w1 u2 w2, (Builtin.append_ #[22, 22] 22 #[.slice (some ⟨w.heap.size, 0, none⟩) 0 0, v]).run Tryz.prog (w.alloc (.cells #[] 36)) = .ok u1 w1 ∧
      (Builtin.append_ #[22, 22] 22 #[u1, .slice (some ⟨w1.heap.size, 0, none⟩) 1 1]).run Tryz.prog (w1.alloc (.cells #[.int .i64 a, .int .i64 y] 36)) = .ok u2 w2 ∧
      OwnS w.heap.size w2 u2 (l ++ [(a, y)]) ∧ Below w.heap.size w w2 := by
  have hb : Below w.heap.size w (w.alloc (.cells #[] 36)) := (Below.refl _ w).alloc (Nat.le_refl _) _
  have h0 : OwnS w.heap.size (w.alloc (.cells #[] 36)) (.slice (some ⟨w.heap.size, 0, none⟩) 0 0) [] := OwnS.empty w (Nat.le_refl _) _ rfl
  obtain ⟨u1, w1, e1, o1, g1⟩ := append_shares h0 hb.size (hS.below hb) (by simp; omega)
  have b1 := hb.trans (g1.belowS h0 hb.size)
  obtain ⟨u2, w2, e2, o2, g2⟩ := append_share o1 b1.size (by simp; omega) a y 36
  exact ⟨u1, w1, u2, w2, e1, e2, o2, b1.trans (g2.belowS o1 b1.size)⟩
/-- append([]Share{}, l...). -/
theorem append_copy {w : World} {v : Value} {l : Chart.Rs} (hS : Sv w.heap.size w v l) (hl : l.length ≤ 1000) :
    ∃ u1 w1, (Builtin.append_ #[22, 22] 22 #[.slice (some ⟨w.heap.size, 0, none⟩) 0 0, v]).run Tryz.prog (w.alloc (.cells #[] 36)) = .ok u1 w1 ∧ OwnS w.heap.size w1 u1 l ∧ Below w.heap.size w w1 := by
  have hb : Below w.heap.size w (w.alloc (.cells #[] 36)) := (Below.refl _ w).alloc (Nat.le_refl _) _
  have h0 : OwnS w.heap.size (w.alloc (.cells #[] 36)) (.slice (some ⟨w.heap.size, 0, none⟩) 0 0) [] := OwnS.empty w (Nat.le_refl _) _ rfl
  obtain ⟨u1, w1, e1, o1, g1⟩ := append_shares h0 hb.size (hS.below hb) (by simp; omega)
  exact ⟨u1, w1, e1, o1, hb.trans (g1.belowS h0 hb.size)⟩

def fewB (n : Nat) : Bool := decide (n ≤ 12) || (decide (64 < n) && decide (n ≤ 100))
theorem few_any (a : Option Addr) (n cap : Nat) (w : World) : Calls Tryz.prog 5 #[.slice a n cap] w fun e w' => e = .returned (.bool (fewB n)) ∧ w = w' := by
  have hcase : (n ≤ 12 ∧ fewB n = true) ∨ (12 < n ∧ n ≤ 64 ∧ fewB n = false) ∨ (64 < n ∧ n ≤ 100 ∧ fewB n = true) ∨ (100 < n ∧ fewB n = false) := by
    unfold fewB
    simp only [Bool.or_eq_true, Bool.and_eq_true, decide_eq_true_eq, Bool.or_eq_false_iff, Bool.and_eq_false_iff, decide_eq_false_iff_not]
    omega
  rcases hcase with ⟨h1, hr⟩ | ⟨h1, h2, hr⟩ | ⟨h1, h2, hr⟩ | ⟨h1, hr⟩
  all_goals
    have HR := Lib.hid hr
    clear hr
    go_enter Tryz.func5, Tryz.ntmps5
    go_wp2_with fail
    go_ret
    exact ⟨by rw [HR.out]; first | rfl | (show Ending.returned (.bool (decide ((n : Int) ≤ 12) || decide ((n : Int) ≤ 100))) = _; congr 2; simp; omega) | (show Ending.returned (.bool (decide ((n : Int) ≤ 12))) = _; congr 2; simp; omega), rfl⟩

/-- The making of a key, which stands still in a walk. -/
def keyBuild (parts : Array (Nat × Value)) : Sem Value := Instr.build 24 parts
@[go_sem ↓ high] theorem build_key_eq (parts : Array (Nat × Value)) : Instr.build 24 parts = keyBuild parts := rfl
def key0 : List UInt8 := List.replicate 32 0
theorem key0_length : key0.length = 32 := rfl
theorem run_key0 (w : World) : (keyBuild #[]).run Tryz.prog w = .ok (.agg (key0.map u8v).toArray) w := by kernel_rfl
end Go.Proofs.YtgklcfipgdbbgaaGreatDoor
