/- group.Check, Mul, Inv, Exp, Base. -/
import Derived.Deep.QuietTactic
import Derived.BigQuiet
import Derived.Deep.RegionWith
import Derived.Test.YtejjincnghmbbaaDoorM9
import Derived.Test.YtejjincnghmbbaaDoorM8
import Derived.Test.YtejjincnghmbbaaDoorM16
import Derived.Test.YtejjincnghmbbaaDoorM18
namespace Go.Proofs.YtejjincnghmbbaaDoor
open Go.RowKit

/-- An element of the group. -/
def Grp (a : Nat) : Prop := 1 ≤ a ∧ a < PP ∧ a ^ Chart.Q % PP = 1

theorem gcheck_ok (a : Nat) (h : Grp a) (w : World) :
    Calls Tryd.prog 35 #[.int .i64 a] w fun e w' => e = .returned (.int .i64 0) ∧ Below w.heap.size w w' := by
  obtain ⟨h1, h2, h3⟩ := h
  have hP := PP_eq
  have hQ := Q_eq
  have e1 : IntKind.u64.wrap (a : Int) = (a : Int) := wrap_small a (by omega)
  have c := gpower_any a Chart.Q h2 (by omega) w
  rw [h3] at c
  rw [hQ] at c
  have C := Lib.hid c
  obtain ⟨x, hx⟩ : ∃ x : Int, x = (a : Int) := ⟨_, rfl⟩
  have b1 : ¬ x < 1 := by omega
  have b2 : ¬ (4611686018427377339 : Int) ≤ x := by omega
  rw [← hx] at C e1 ⊢
  clear c h1 h2 h3 hP hQ hx
  go_enter Tryd.func35, Tryd.ntmps35
  go_wp2_with fail
  refine C.out.mono ?_
  rintro e w' ⟨rfl, hb⟩
  go_wp2_with fail
  go_ret
  exact ⟨rfl, hb⟩

theorem gcheck_out (x : Int) (h : x < 1 ∨ 4611686018427377339 ≤ x) (w : World) :
    Calls Tryd.prog 35 #[.int .i64 x] w fun e w' => e = .returned (.int .i64 40) ∧ Below w.heap.size w w' := by
  by_cases b1 : x < 1
  · clear h
    go_enter Tryd.func35, Tryd.ntmps35
    go_wp2_with fail
    go_ret
    exact ⟨rfl, Below.refl _ _⟩
  · have b2 : (4611686018427377339 : Int) ≤ x := by omega
    clear h
    go_enter Tryd.func35, Tryd.ntmps35
    go_wp2_with fail
    go_ret
    exact ⟨rfl, Below.refl _ _⟩

theorem gcheck_not (a : Nat) (h1 : 1 ≤ a) (h2 : a < PP) (h3 : a ^ Chart.Q % PP ≠ 1) (w : World) :
    Calls Tryd.prog 35 #[.int .i64 a] w fun e w' => e = .returned (.int .i64 40) ∧ Below w.heap.size w w' := by
  have hP := PP_eq
  have hQ := Q_eq
  have e1 : IntKind.u64.wrap (a : Int) = (a : Int) := wrap_small a (by omega)
  have c := gpower_any a Chart.Q h2 (by omega) w
  obtain ⟨r, hr⟩ : ∃ r, r = a ^ Chart.Q % PP := ⟨_, rfl⟩
  rw [← hr] at c h3
  rw [hQ] at c
  have C := Lib.hid c
  obtain ⟨x, hx⟩ : ∃ x : Int, x = (a : Int) := ⟨_, rfl⟩
  have b1 : ¬ x < 1 := by omega
  have b2 : ¬ (4611686018427377339 : Int) ≤ x := by omega
  have b3 : ((r : Int) != 1) = true := by rw [bne_iff_ne]; omega
  rw [← hx] at C e1 ⊢
  clear c h1 h2 h3 hP hQ hx hr
  go_enter Tryd.func35, Tryd.ntmps35
  go_wp2_with fail
  refine C.out.mono ?_
  rintro e w' ⟨rfl, hb⟩
  go_wp2_with fail
  go_ret
  exact ⟨rfl, hb⟩

/-- A number that is no element. -/
theorem gcheck_bad (x : Int) (h : ¬ ∃ n : Nat, x = n ∧ Grp n) (w : World) :
    Calls Tryd.prog 35 #[.int .i64 x] w fun e w' => e = .returned (.int .i64 40) ∧ Below w.heap.size w w' := by
  by_cases hx : x < 1 ∨ 4611686018427377339 ≤ x
  · exact gcheck_out x hx w
  · have hP := PP_eq
    obtain ⟨n, rfl⟩ := Int.eq_ofNat_of_zero_le (show 0 ≤ x by omega)
    refine gcheck_not n (by omega) (by omega) (fun h3 => h ⟨n, rfl, by omega, by omega, h3⟩) w

theorem gexp_ok (a k : Nat) (h : Grp a) (hk : k < Chart.Q) (w : World) :
    Calls Tryd.prog 32 #[.int .i64 a, .int .i64 k] w fun e w' => e = two ((a ^ k % PP : Nat) : Int) 0 ∧ Below w.heap.size w w' := by
  have hP := PP_eq
  have hQ := Q_eq
  have h2 := h.2.1
  have e1 : IntKind.u64.wrap (a : Int) = (a : Int) := wrap_small a (by omega)
  have e2 : IntKind.u64.wrap (k : Int) = (k : Int) := wrap_small k (by omega)
  have c1 := gcheck_ok a h w
  have C1 := Lib.hid c1
  have C2 := Lib.hid (gpower_any a k h.2.1 (by omega))
  obtain ⟨r, hr⟩ : ∃ r, r = a ^ k % PP := ⟨_, rfl⟩
  have e3 : IntKind.i64.wrap (r : Int) = (r : Int) := wrap_i64_small _ (by omega) (by rw [hr]; have := Nat.mod_lt (a ^ k) (show PP > 0 by omega); omega)
  rw [← hr] at C2 ⊢
  obtain ⟨x, hx⟩ : ∃ x : Int, x = (k : Int) := ⟨_, rfl⟩
  have b1 : ¬ x < 0 := by omega
  have b2 : ¬ (2305843009213688669 : Int) ≤ x := by omega
  rw [← hx] at C2 e2 ⊢
  clear c1 hP hQ h2 hr hk h hx
  go_enter Tryd.func32, Tryd.ntmps32
  go_wp2_with fail
  refine C1.out.mono ?_
  rintro e w1 ⟨rfl, hb1⟩
  go_wp2_with fail
  refine (C2.out w1).mono ?_
  rintro e w2 ⟨rfl, hb2⟩
  go_wp2_with fail
  go_ret2
  exact ⟨rfl, hb1.trans (hb2.mono hb1.size)⟩

theorem gexp_bad (x k : Int) (h : ¬ ∃ n : Nat, x = n ∧ Grp n) (w : World) :
    Calls Tryd.prog 32 #[.int .i64 x, .int .i64 k] w fun e w' => e = two 0 40 ∧ Below w.heap.size w w' := by
  have C1 := Lib.hid (gcheck_bad x h w)
  clear h
  go_enter Tryd.func32, Tryd.ntmps32
  go_wp2_with fail
  refine C1.out.mono ?_
  rintro e w1 ⟨rfl, hb1⟩
  go_wp2_with fail
  go_ret2
  exact ⟨rfl, hb1⟩

theorem gexp_arg (a : Nat) (k : Int) (h : Grp a) (hk : k < 0 ∨ 2305843009213688669 ≤ k) (w : World) :
    Calls Tryd.prog 32 #[.int .i64 a, .int .i64 k] w fun e w' => e = two 0 1 ∧ Below w.heap.size w w' := by
  have C1 := Lib.hid (gcheck_ok a h w)
  clear h
  by_cases b1 : k < 0
  · clear hk
    go_enter Tryd.func32, Tryd.ntmps32
    go_wp2_with fail
    refine C1.out.mono ?_
    rintro e w1 ⟨rfl, hb1⟩
    go_wp2_with fail
    go_ret2
    exact ⟨rfl, hb1⟩
  · have b2 : (2305843009213688669 : Int) ≤ k := by omega
    clear hk
    go_enter Tryd.func32, Tryd.ntmps32
    go_wp2_with fail
    refine C1.out.mono ?_
    rintro e w1 ⟨rfl, hb1⟩
    go_wp2_with fail
    go_ret2
    exact ⟨rfl, hb1⟩

theorem index_two (x y : Value) (w : World) :
    (Instr.index 66 (.agg #[x, y]) (.int .i64 0)).run Tryd.prog w = .ok x w ∧ (Instr.index 66 (.agg #[x, y]) (.int .i64 1)).run Tryd.prog w = .ok y w := by
  constructor <;> kernel_rfl

theorem gmul_ok (a b : Nat) (ha : Grp a) (hb : Grp b) (w : World) :
    Calls Tryd.prog 40 #[.int .i64 a, .int .i64 b] w fun e w' => e = two ((a * b % PP : Nat) : Int) 0 ∧ Below w.heap.size w w' := by
  have hP := PP_eq
  have h1 := ha.2.1
  have h2 := hb.2.1
  have e1 : IntKind.u64.wrap (a : Int) = (a : Int) := wrap_small a (by omega)
  have e2 : IntKind.u64.wrap (b : Int) = (b : Int) := wrap_small b (by omega)
  have i0 := fun w => (index_two (.int .i64 (a : Int)) (.int .i64 (b : Int)) w).1
  have i1 := fun w => (index_two (.int .i64 (a : Int)) (.int .i64 (b : Int)) w).2
  have C1 := Lib.hid (gcheck_ok a ha)
  have C2 := Lib.hid (gcheck_ok b hb)
  have C3 := Lib.hid (times_any a b h1 h2)
  obtain ⟨r, hr⟩ : ∃ r, r = a * b % PP := ⟨_, rfl⟩
  have e3 : IntKind.i64.wrap (r : Int) = (r : Int) := wrap_i64_small _ (by omega) (by rw [hr]; have := Nat.mod_lt (a * b) (show PP > 0 by omega); omega)
  rw [← hr] at C3 ⊢
  clear hP h1 h2 hr ha hb
  go_enter Tryd.func40, Tryd.ntmps40
  go_wp2_with fail
  go_loopw [12] (fun i wr => ∃ k : Nat, k ≤ 2 ∧ i = .int .i64 k ∧ Below w.heap.size w wr) (fun i _ => 2 - (intOf i).toNat)
  case atStart => exact ⟨0, by omega, rfl, Below.refl _ _⟩
  case round =>
    obtain ⟨k, hk, rfl, hbw⟩ := hrel
    rcases k with _ | _ | _ | k
    · go_wp2_with fail
      refine (C1.out wr).mono ?_
      rintro e w1 ⟨rfl, hb1⟩
      go_wp2_with fail
      go_roundw
      case rel => exact ⟨1, by omega, rfl, hbw.trans (hb1.mono hbw.size)⟩
      case measure => simp [intOf]
    · go_wp2_with fail
      refine (C2.out wr).mono ?_
      rintro e w1 ⟨rfl, hb1⟩
      go_wp2_with fail
      go_roundw
      case rel => exact ⟨2, by omega, rfl, hbw.trans (hb1.mono hbw.size)⟩
      case measure => simp [intOf]
    · go_wp2_with fail
      refine (C3.out wr).mono ?_
      rintro e w1 ⟨rfl, hb1⟩
      go_wp2_with fail
      go_ret2
      exact ⟨rfl, hbw.trans (hb1.mono hbw.size)⟩
    · omega

theorem gmul_bad1 (x y : Int) (h : ¬ ∃ n : Nat, x = n ∧ Grp n) (w : World) :
    Calls Tryd.prog 40 #[.int .i64 x, .int .i64 y] w fun e w' => e = two 0 40 ∧ Below w.heap.size w w' := by
  have i0 := fun w => (index_two (.int .i64 x) (.int .i64 y) w).1
  have C1 := Lib.hid (gcheck_bad x h)
  clear h
  go_enter Tryd.func40, Tryd.ntmps40
  go_wp2_with fail
  refine wp_loop_rounds 1 ?_
  rw [rounds_succ]
  go_wp2_with fail
  refine (C1.out _).mono ?_
  rintro e w1 ⟨rfl, hb1⟩
  go_wp2_with fail
  go_ret2
  exact ⟨rfl, hb1⟩

theorem gmul_bad2 (a : Nat) (y : Int) (ha : Grp a) (h : ¬ ∃ n : Nat, y = n ∧ Grp n) (w : World) :
    Calls Tryd.prog 40 #[.int .i64 a, .int .i64 y] w fun e w' => e = two 0 40 ∧ Below w.heap.size w w' := by
  have i0 := fun w => (index_two (.int .i64 (a : Int)) (.int .i64 y) w).1
  have i1 := fun w => (index_two (.int .i64 (a : Int)) (.int .i64 y) w).2
  have C1 := Lib.hid (gcheck_ok a ha)
  have C2 := Lib.hid (gcheck_bad y h)
  clear h ha
  go_enter Tryd.func40, Tryd.ntmps40
  go_wp2_with fail
  refine wp_loop_rounds 2 ?_
  rw [rounds_succ]
  go_wp2_with fail
  refine (C1.out _).mono ?_
  rintro e w1 ⟨rfl, hb1⟩
  go_wp2_with fail
  rw [rounds_succ]
  go_wp2_with fail
  refine (C2.out _).mono ?_
  rintro e w2 ⟨rfl, hb2⟩
  go_wp2_with fail
  go_ret2
  exact ⟨rfl, hb1.trans (hb2.mono hb1.size)⟩

theorem ginv_ok (a : Nat) (h : Grp a) (w : World) :
    Calls Tryd.prog 45 #[.int .i64 a] w fun e w' => e = two ((a ^ (Chart.Q - 1) % PP : Nat) : Int) 0 ∧ Below w.heap.size w w' := by
  have C1 := Lib.hid (gexp_ok a 2305843009213688668 h (by rw [Q_eq]; decide) w)
  have hQ : Chart.Q - 1 = 2305843009213688668 := rfl
  rw [← hQ] at C1
  obtain ⟨r, hr⟩ : ∃ r, r = a ^ (Chart.Q - 1) % PP := ⟨_, rfl⟩
  rw [← hr] at C1 ⊢
  rw [hQ] at C1
  clear hr hQ h
  go_enter Tryd.func45, Tryd.ntmps45
  go_wp2_with fail
  refine C1.out.mono ?_
  rintro e w1 ⟨rfl, hb1⟩
  go_wp2_with fail
  go_ret2
  exact ⟨rfl, hb1⟩

theorem ginv_bad (x : Int) (h : ¬ ∃ n : Nat, x = n ∧ Grp n) (w : World) :
    Calls Tryd.prog 45 #[.int .i64 x] w fun e w' => e = two 0 40 ∧ Below w.heap.size w w' := by
  have C1 := Lib.hid (gexp_bad x 2305843009213688668 h w)
  clear h
  go_enter Tryd.func45, Tryd.ntmps45
  go_wp2_with fail
  refine C1.out.mono ?_
  rintro e w1 ⟨rfl, hb1⟩
  go_wp2_with fail
  go_ret2
  exact ⟨rfl, hb1⟩

theorem grp_four : Grp 4 := by
  refine ⟨by decide, by decide, ?_⟩
  rw [← Chart.pm_eq PP 4 64 Chart.Q (by decide)]
  decide +kernel

theorem gbase_ok (k : Nat) (hk : k < Chart.Q) (w : World) :
    Calls Tryd.prog 15 #[.int .i64 k] w fun e w' => e = two ((4 ^ k % PP : Nat) : Int) 0 ∧ Below w.heap.size w w' := by
  have C1 := Lib.hid (gexp_ok 4 k grp_four hk w)
  obtain ⟨r, hr⟩ : ∃ r, r = 4 ^ k % PP := ⟨_, rfl⟩
  rw [← hr] at C1 ⊢
  clear hr hk
  go_enter Tryd.func15, Tryd.ntmps15
  go_wp2_with fail
  refine C1.out.mono ?_
  rintro e w1 ⟨rfl, hb1⟩
  go_wp2_with fail
  go_ret2
  exact ⟨rfl, hb1⟩

theorem gbase_arg (k : Int) (hk : k < 0 ∨ 2305843009213688669 ≤ k) (w : World) :
    Calls Tryd.prog 15 #[.int .i64 k] w fun e w' => e = two 0 1 ∧ Below w.heap.size w w' := by
  have C1 := Lib.hid (gexp_arg 4 k grp_four hk w)
  clear hk
  go_enter Tryd.func15, Tryd.ntmps15
  go_wp2_with fail
  refine C1.out.mono ?_
  rintro e w1 ⟨rfl, hb1⟩
  go_wp2_with fail
  go_ret2
  exact ⟨rfl, hb1⟩

end Go.Proofs.YtejjincnghmbbaaDoor

/- proxy.Check: a capsule's elements. -/
namespace Go.Proofs.YtejjincnghmbbaaDoor
open Go.RowKit

/-- A capsule as cells. -/
def capV (a b : Int) (pad : List UInt8) : List Value := .int .i64 a :: .int .i64 b :: pad.map u8v

set_option maxRecDepth 20000 in
theorem pcheck_any (a b : Int) (pad : List UInt8) (ra rb : Int) (w : World)
    (ha : ∀ w, Calls Tryd.prog 35 #[.int .i64 a] w fun e w' => e = .returned (.int .i64 ra) ∧ Below w.heap.size w w')
    (hb : ∀ w, Calls Tryd.prog 35 #[.int .i64 b] w fun e w' => e = .returned (.int .i64 rb) ∧ Below w.heap.size w w') :
    Calls Tryd.prog 18 #[.agg (capV a b pad).toArray] w fun e w' => e = .returned (.int .i64 (if ra = 0 ∧ rb = 0 then 0 else 110)) ∧ Below w.heap.size w w' := by
  have Ha := Lib.hid ha
  have Hb := Lib.hid hb
  clear ha hb
  obtain ⟨d, hd⟩ : ∃ d, d = capV a b pad := ⟨_, rfl⟩
  rw [← hd]
  obtain ⟨w1, hw1⟩ : ∃ x, x = w.alloc (.cells d.toArray 25) := ⟨_, rfl⟩
  have hR1 : RowIs w1 w.heap.size 25 d := by rw [hw1]; exact RowIs.new w d _
  have hB1 : Below w.heap.size w w1 := by rw [hw1]; exact (Below.refl _ w).alloc (Nat.le_refl _) _
  have c0 : w1.cell? ⟨w.heap.size, 0, none⟩ = some (.int .i64 a) := (hR1.cell 0).trans (by rw [hd]; rfl)
  have c1 : w1.cell? ⟨w.heap.size, 1, none⟩ = some (.int .i64 b) := (hR1.cell 1).trans (by rw [hd]; rfl)
  have H1 := Lib.hid (And.intro hB1 hR1.lt)
  clear hR1 hB1 hd
  go_enter Tryd.func18, Tryd.ntmps18
  go_upto_region 1 with fail
  rw [← hw1]
  clear hw1
  go_wp2_with fail
  refine (Ha.out w1).mono ?_
  rintro e w2 ⟨rfl, hB2⟩
  have c12 := ((bcell hB2).1 w.heap.size 1 H1.out.2).trans c1
  have H2 := Lib.hid (And.intro (H1.out.1.trans (hB2.mono (Nat.le_of_lt H1.out.2))) hB2.size)
  clear hB2
  by_cases h0 : ra = 0
  · subst h0
    go_wp2_with fail
    refine (Hb.out w2).mono ?_
    rintro e w3 ⟨rfl, hB3⟩
    have H3 := Lib.hid (H2.out.1.trans (hB3.mono (Nat.le_trans (Nat.le_of_lt H1.out.2) H2.out.2)))
    clear hB3
    by_cases h1 : rb = 0
    · subst h1
      go_wp2_with fail
      go_ret
      exact ⟨rfl, H3.out⟩
    · go_wp2_with fail
      go_ret
      exact ⟨by simp, H3.out⟩
  · go_wp2_with fail
    go_ret
    exact ⟨by simp, H2.out.1⟩
end Go.Proofs.YtejjincnghmbbaaDoor

/- proxy.Check in two words; proxy.Turn. -/
namespace Go.Proofs.YtejjincnghmbbaaDoor
open Go.RowKit

/-- A number that is an element of the group. -/
def IsGrp (x : Int) : Prop := ∃ n : Nat, x = n ∧ Grp n

theorem pcheck_ok (a b : Nat) (pad : List UInt8) (ha : Grp a) (hb : Grp b) (w : World) :
    Calls Tryd.prog 18 #[.agg (capV a b pad).toArray] w fun e w' => e = .returned (.int .i64 0) ∧ Below w.heap.size w w' :=
  pcheck_any a b pad 0 0 w (gcheck_ok a ha) (gcheck_ok b hb)
theorem gcheck_code (x : Int) : ∃ r : Int, (r = 0 ↔ IsGrp x) ∧ ∀ w, Calls Tryd.prog 35 #[.int .i64 x] w fun e w' => e = .returned (.int .i64 r) ∧ Below w.heap.size w w' := by
  by_cases h : IsGrp x
  · obtain ⟨n, rfl, hn⟩ := h
    exact ⟨0, by simp only [true_iff]; exact ⟨n, rfl, hn⟩, gcheck_ok n hn⟩
  · exact ⟨40, by simp [h], gcheck_bad x h⟩
theorem pcheck_bad (a b : Int) (pad : List UInt8) (h : ¬ (IsGrp a ∧ IsGrp b)) (w : World) :
    Calls Tryd.prog 18 #[.agg (capV a b pad).toArray] w fun e w' => e = .returned (.int .i64 110) ∧ Below w.heap.size w w' := by
  obtain ⟨ra, ha, ca⟩ := gcheck_code a
  obtain ⟨rb, hb, cb⟩ := gcheck_code b
  have := pcheck_any a b pad ra rb w ca cb
  rw [if_neg (by rw [ha, hb]; exact h)] at this
  exact this

def zeroPad : List UInt8 := List.replicate 32 0
/-- The zero capsule as cells. -/
def zeroCap : List Value := capV 0 0 zeroPad
theorem zeroCap_eq : zeroCap = [.int .i64 0, .int .i64 0, .int .u8 0, .int .u8 0, .int .u8 0, .int .u8 0, .int .u8 0, .int .u8 0, .int .u8 0, .int .u8 0, .int .u8 0, .int .u8 0, .int .u8 0, .int .u8 0, .int .u8 0, .int .u8 0, .int .u8 0, .int .u8 0, .int .u8 0, .int .u8 0, .int .u8 0, .int .u8 0, .int .u8 0, .int .u8 0, .int .u8 0, .int .u8 0, .int .u8 0, .int .u8 0, .int .u8 0, .int .u8 0, .int .u8 0, .int .u8 0, .int .u8 0, .int .u8 0] := rfl
theorem capV_length (a b : Int) {pad : List UInt8} (h : pad.length = 32) : (capV a b pad).length = 34 := by simp [capV, h]
theorem oneCell_cap (a b : Int) (pad : List UInt8) : ∀ v ∈ capV a b pad, v.oneCell' = true := by
  intro v hv
  unfold capV at hv
  rw [List.mem_cons, List.mem_cons] at hv
  rcases hv with rfl | rfl | hv
  · rfl
  · rfl
  · exact oneCell_bytes _ v hv

set_option maxRecDepth 20000 in
theorem turn_ok (n a b : Nat) (pad : List UInt8) (hp : pad.length = 32) (hn0 : 0 < n) (hn : n < Chart.Q) (ha : Grp a) (hb : Grp b) (w : World) :
    Calls Tryd.prog 12 #[.int .i64 n, .agg (capV a b pad).toArray] w fun e w' =>
      e = .returned (.tuple #[.agg (capV ((a ^ n % PP : Nat) : Int) b pad).toArray, .int .i64 0]) ∧ Below w.heap.size w w' := by
  have hmf : ∀ (fn : Fn) (first cap : Array Value) (w : World), (Instr.makeFunc fn first cap).run Tryd.prog w = .ok (.func fn first cap) w := fun _ _ _ _ => rfl
  have hQ := Q_eq
  have C1 := Lib.hid (isPrivate_ok (n : Int) (by omega) (by omega))
  have C2 := Lib.hid (pcheck_ok a b pad ha hb)
  have C3 := Lib.hid (gexp_ok a n ha hn)
  obtain ⟨r, hr⟩ : ∃ r, r = a ^ n % PP := ⟨_, rfl⟩
  rw [← hr] at C3 ⊢
  obtain ⟨c, hc⟩ : ∃ c, c = capV (a : Int) (b : Int) pad := ⟨_, rfl⟩
  have hcl : c.length = 34 := by rw [hc]; exact capV_length _ _ hp
  rw [← hc] at C2 ⊢
  obtain ⟨w1, hw1⟩ : ∃ x, x = w.alloc (.cells c.toArray 25) := ⟨_, rfl⟩
  obtain ⟨w2, hw2⟩ : ∃ x, x = w1.alloc (.cells #[.int .i64 0, .int .i64 0, .int .u8 0, .int .u8 0, .int .u8 0, .int .u8 0, .int .u8 0, .int .u8 0, .int .u8 0, .int .u8 0, .int .u8 0, .int .u8 0, .int .u8 0, .int .u8 0, .int .u8 0, .int .u8 0, .int .u8 0, .int .u8 0, .int .u8 0, .int .u8 0, .int .u8 0, .int .u8 0, .int .u8 0, .int .u8 0, .int .u8 0, .int .u8 0, .int .u8 0, .int .u8 0, .int .u8 0, .int .u8 0, .int .u8 0, .int .u8 0, .int .u8 0, .int .u8 0] 25) := ⟨_, rfl⟩
  obtain ⟨w3, hw3⟩ : ∃ x, x = w2.alloc (.cells #[.int .i64 0] 27) := ⟨_, rfl⟩
  have s1 : w1.heap.size = w.heap.size + 1 := by rw [hw1]; simp
  have s2 : w2.heap.size = w.heap.size + 1 + 1 := by rw [hw2]; simp [s1]
  have r1 : RowIs w3 w.heap.size 25 c := by
    rw [hw3, hw2]
    refine RowIs.alloc (RowIs.alloc ?_ _) _
    rw [hw1]; exact RowIs.new w c _
  have r2 : RowIs w3 (w.heap.size + 1) 25 zeroCap := by
    rw [hw3]
    refine RowIs.alloc ?_ _
    rw [hw2, ← s1, zeroCap_eq]; exact RowIs.new w1 _ _
  have r3 : RowIs w3 (w.heap.size + 1 + 1) 27 [.int .i64 0] := by
    rw [hw3, ← s2]; exact RowIs.new w2 [.int .i64 0] _
  have hB : Below w.heap.size w w3 := by
    rw [hw3, hw2, hw1]
    exact (((Below.refl _ w).alloc (Nat.le_refl _) _).alloc (by simp) _).alloc (by simp; omega) _
  have E1 := r1.loads (P := Tryd.prog) 34 hcl
  have HH := Lib.hid (And.intro r1 (And.intro r2 (And.intro r3 (And.intro hB (And.intro hc hr)))))
  clear r1 r2 r3 hB hc hr s1 s2 hQ hn0 hn ha hb
  go_enter_defers Tryd.func12, Tryd.ntmps12
  go_upto_region 1 with fail
  rw [← hw1, ← hw2, ← hw3]
  clear hw1 hw2 hw3
  go_wp2_with fail
  refine (C1.out _).mono ?_
  rintro e w4 ⟨rfl, rfl⟩
  go_wp2_with fail
  refine (demand_ok _ _).mono ?_
  rintro e w4 ⟨rfl, rfl⟩
  go_wp2_with fail
  refine (C2.out _).mono ?_
  rintro e w4 ⟨rfl, hB4⟩
  go_wp2_with fail
  refine (demand_ok _ _).mono ?_
  rintro e w5 ⟨rfl, rfl⟩
  have h1 := HH.out.1.below hB4 HH.out.1.lt
  have h2 := HH.out.2.1.below hB4 HH.out.2.1.lt
  have h3 := HH.out.2.2.1.below hB4 HH.out.2.2.1.lt
  have hB := HH.out.2.2.2.1.trans (hB4.mono HH.out.2.2.2.1.size)
  have c0 := (h1.cell 0).trans (show _ = some (Value.int .i64 (a : Int)) by rw [HH.out.2.2.2.2.1]; rfl)
  have H4 := Lib.hid (And.intro h1 (And.intro h2 (And.intro h3 hB)))
  clear h1 h2 h3 hB hB4 E1
  go_wp2_with fail
  refine (C3.out _).mono ?_
  rintro e w5 ⟨rfl, hB5⟩
  go_wp2_with fail
  refine (must_ok _ _).mono ?_
  rintro e w6 ⟨rfl, rfl⟩
  have h1 := H4.out.1.below hB5 H4.out.1.lt
  have h2 := H4.out.2.1.below hB5 H4.out.2.1.lt
  have h3 := H4.out.2.2.1.below hB5 H4.out.2.2.1.lt
  have hB := H4.out.2.2.2.trans (hB5.mono H4.out.2.2.2.size)
  have c0 := (h1.cell 0).trans (show _ = some (Value.int .i64 (a : Int)) by rw [HH.out.2.2.2.2.1]; rfl)
  have f0 := h1.frozen 0
  have h1' := h1.set 0 (.int .i64 (r : Int))
  rw [HH.out.2.2.2.2.1] at h1'
  have hcs : (capV (a : Int) (b : Int) pad).set 0 (.int .i64 (r : Int)) = capV (r : Int) (b : Int) pad := rfl
  rw [hcs] at h1'
  obtain ⟨d, hd⟩ : ∃ d, d = capV (r : Int) (b : Int) pad := ⟨_, rfl⟩
  have hdl : d.length = 34 := by rw [hd]; exact capV_length _ _ hp
  have hd1 : ∀ v ∈ d, v.oneCell' = true := by rw [hd]; exact oneCell_cap _ _ _
  rw [← hd] at h1'
  have Hd := Lib.hid hd
  have hne : w.heap.size + 1 ≠ w.heap.size := by omega
  have hne2 : w.heap.size + 1 + 1 ≠ w.heap.size := by omega
  have h2' := h2.apart (Apart.setCell w5 w.heap.size 0 (.int .i64 (r : Int))) hne
  have h3' := h3.apart (Apart.setCell w5 w.heap.size 0 (.int .i64 (r : Int))) hne2
  have hB' := below_setCell hB (Nat.le_refl _) 0 (.int .i64 (r : Int))
  have H5 := Lib.hid (And.intro h1' (And.intro h2' (And.intro h3' hB')))
  clear h1 h2 h3 hB h1' h2' h3' hB' hcs hd
  go_upto_region 5 with fail
  obtain ⟨w7, hw7⟩ : ∃ x, x = w5.setCell ⟨w.heap.size, 0, none⟩ (.int .i64 (r : Int)) := ⟨_, rfl⟩
  rw [← hw7] at H5 ⊢
  have E5 := H5.out.1.loads (P := Tryd.prog) 34 hdl
  have E6 := H5.out.2.1.stores (P := Tryd.prog) d (by rw [hdl]; rfl) hd1
  obtain ⟨w8, hw8⟩ : ∃ x, x = w7.setRow (w.heap.size + 1) d.toArray := ⟨_, rfl⟩
  rw [← hw8] at E6
  have h2 : RowIs w8 (w.heap.size + 1) 25 d := by rw [hw8]; exact H5.out.2.1.setRow _
  have h3 : RowIs w8 (w.heap.size + 1 + 1) 27 [.int .i64 0] := by
    rw [hw8]; exact (heap_setRow_other _ _ _ _ (by omega)).trans H5.out.2.2.1
  have hB : Below w.heap.size w w8 := by rw [hw8]; exact below_setRow H5.out.2.2.2 (by omega) _
  have c8 := (h3.cell 0).trans (show _ = some (Value.int .i64 0) from rfl)
  have f8 := h3.frozen 0
  have H8 := Lib.hid (And.intro h2 (And.intro h3 hB))
  clear h2 h3 hB hw7 hw8 c0 f0
  go_wp2_with fail
  refine leaves_cons (f := 31) (args := #[.pointer (some ⟨w.heap.size + 1 + 1, 0, none⟩)]) (by simp) (by simp [go_sem]) ?_
  refine (turn1_idle (w.heap.size + 1 + 1) _).mono ?_
  rintro e u' w9 ⟨rfl, rfl, rfl⟩
  have h2 := H8.out.1.apart (Apart.setCell w8 (w.heap.size + 1 + 1) 0 (.int .i64 0)) (by omega)
  refine ⟨.tuple #[.agg d.toArray, .int .i64 0], results_row_cell rfl _ _ (w.heap.size + 1) _ d.toArray (0, 0) _ rfl h2 Tryd.underlying25 rfl (by rw [List.size_toArray, hdl]; kernel_rfl) (w.heap.size + 1 + 1) 0 (.int .i64 0) rfl (isAgg_int .i64 (by kernel_rfl)) ((H8.out.2.1.set 0 _).cell 0), by rw [Hd.out], below_setCell H8.out.2.2 (by omega) _ _⟩

set_option maxRecDepth 20000 in
theorem turn_key (n a b : Int) (pad : List UInt8) (hp : pad.length = 32) (hn : NoKey n) (w : World) :
    Calls Tryd.prog 12 #[.int .i64 n, .agg (capV a b pad).toArray] w fun e w' =>
      e = .returned (.tuple #[.agg zeroCap.toArray, .int .i64 50]) ∧ Below w.heap.size w w' := by
  have hmf : ∀ (fn : Fn) (first cap : Array Value) (w : World), (Instr.makeFunc fn first cap).run Tryd.prog w = .ok (.func fn first cap) w := fun _ _ _ _ => rfl
  obtain ⟨c, hc⟩ : ∃ c, c = capV a b pad := ⟨_, rfl⟩
  have hcl : c.length = 34 := by rw [hc]; exact capV_length _ _ hp
  have C1 := Lib.hid (isPrivate_bad n hn)
  rw [← hc]
  obtain ⟨w1, hw1⟩ : ∃ x, x = w.alloc (.cells c.toArray 25) := ⟨_, rfl⟩
  obtain ⟨w2, hw2⟩ : ∃ x, x = w1.alloc (.cells #[.int .i64 0, .int .i64 0, .int .u8 0, .int .u8 0, .int .u8 0, .int .u8 0, .int .u8 0, .int .u8 0, .int .u8 0, .int .u8 0, .int .u8 0, .int .u8 0, .int .u8 0, .int .u8 0, .int .u8 0, .int .u8 0, .int .u8 0, .int .u8 0, .int .u8 0, .int .u8 0, .int .u8 0, .int .u8 0, .int .u8 0, .int .u8 0, .int .u8 0, .int .u8 0, .int .u8 0, .int .u8 0, .int .u8 0, .int .u8 0, .int .u8 0, .int .u8 0, .int .u8 0, .int .u8 0] 25) := ⟨_, rfl⟩
  obtain ⟨w3, hw3⟩ : ∃ x, x = w2.alloc (.cells #[.int .i64 0] 27) := ⟨_, rfl⟩
  have s1 : w1.heap.size = w.heap.size + 1 := by rw [hw1]; simp
  have s2 : w2.heap.size = w.heap.size + 1 + 1 := by rw [hw2]; simp [s1]
  have r1 : RowIs w3 w.heap.size 25 c := by
    rw [hw3, hw2]
    refine RowIs.alloc (RowIs.alloc ?_ _) _
    rw [hw1]; exact RowIs.new w c _
  have r2 : RowIs w3 (w.heap.size + 1) 25 zeroCap := by
    rw [hw3]
    refine RowIs.alloc ?_ _
    rw [hw2, ← s1, zeroCap_eq]; exact RowIs.new w1 _ _
  have r3 : RowIs w3 (w.heap.size + 1 + 1) 27 [.int .i64 0] := by
    rw [hw3, ← s2]; exact RowIs.new w2 [.int .i64 0] _
  have hB : Below w.heap.size w w3 := by
    rw [hw3, hw2, hw1]
    exact (((Below.refl _ w).alloc (Nat.le_refl _) _).alloc (by simp) _).alloc (by simp; omega) _
  have E1 := r1.loads (P := Tryd.prog) 34 hcl
  have HH := Lib.hid (And.intro r2 (And.intro r3 hB))
  have c0 := (r3.cell 0).trans (show _ = some (Value.int .i64 0) from rfl)
  have f0 := r3.frozen 0
  clear r1 r2 r3 hB hc s1 s2 E1 hn
  go_enter_defers Tryd.func12, Tryd.ntmps12
  go_upto_region 1 with fail
  rw [← hw1, ← hw2, ← hw3]
  clear hw1 hw2 hw3
  go_wp2_with fail
  refine (C1.out _).mono ?_
  rintro e w4 ⟨rfl, rfl⟩
  go_wp2_with fail
  refine (demand_bad _ _).mono ?_
  rintro e w4 ⟨rfl, rfl⟩
  go_wp2_with fail
  refine leaves_cons (f := 31) (args := #[.pointer (some ⟨w.heap.size + 1 + 1, 0, none⟩)]) (by simp) (by simp [go_sem]) ?_
  refine (turn1_fail 50 0 (w.heap.size + 1 + 1) [] _ c0 f0).mono ?_
  rintro e u' w9 ⟨rfl, rfl, rfl⟩
  have h2 := (HH.out.1.apart (Apart.setCell w3 (w.heap.size + 1 + 1) 0 (.int .i64 50)) (by omega)).alloc (.cells #[.int .i64 50] 60)
  refine ⟨.tuple #[.agg zeroCap.toArray, .int .i64 50], results_row_cell rfl _ _ (w.heap.size + 1) _ zeroCap.toArray (0, 0) _ rfl h2 Tryd.underlying25 rfl (by kernel_rfl) (w.heap.size + 1 + 1) 0 (.int .i64 50) rfl (isAgg_int .i64 (by kernel_rfl)) (((HH.out.2.1.set 0 _).alloc _).cell 0), rfl, (below_setCell HH.out.2.2 (by omega) _ _).alloc (by simpa using HH.out.2.2.size) _⟩

set_option maxRecDepth 20000 in
theorem turn_cap (n : Int) (h1 : 1 ≤ n) (h2 : n < 2305843009213688669) (a b : Int) (pad : List UInt8) (hp : pad.length = 32) (hn : ¬ (IsGrp a ∧ IsGrp b)) (w : World) :
    Calls Tryd.prog 12 #[.int .i64 n, .agg (capV a b pad).toArray] w fun e w' =>
      e = .returned (.tuple #[.agg zeroCap.toArray, .int .i64 110]) ∧ Below w.heap.size w w' := by
  have hmf : ∀ (fn : Fn) (first cap : Array Value) (w : World), (Instr.makeFunc fn first cap).run Tryd.prog w = .ok (.func fn first cap) w := fun _ _ _ _ => rfl
  obtain ⟨c, hc⟩ : ∃ c, c = capV a b pad := ⟨_, rfl⟩
  have hcl : c.length = 34 := by rw [hc]; exact capV_length _ _ hp
  have C1 := Lib.hid (isPrivate_ok n h1 h2)
  have C2 := Lib.hid (pcheck_bad a b pad hn)
  rw [← hc] at C2 ⊢
  obtain ⟨w1, hw1⟩ : ∃ x, x = w.alloc (.cells c.toArray 25) := ⟨_, rfl⟩
  obtain ⟨w2, hw2⟩ : ∃ x, x = w1.alloc (.cells #[.int .i64 0, .int .i64 0, .int .u8 0, .int .u8 0, .int .u8 0, .int .u8 0, .int .u8 0, .int .u8 0, .int .u8 0, .int .u8 0, .int .u8 0, .int .u8 0, .int .u8 0, .int .u8 0, .int .u8 0, .int .u8 0, .int .u8 0, .int .u8 0, .int .u8 0, .int .u8 0, .int .u8 0, .int .u8 0, .int .u8 0, .int .u8 0, .int .u8 0, .int .u8 0, .int .u8 0, .int .u8 0, .int .u8 0, .int .u8 0, .int .u8 0, .int .u8 0, .int .u8 0, .int .u8 0] 25) := ⟨_, rfl⟩
  obtain ⟨w3, hw3⟩ : ∃ x, x = w2.alloc (.cells #[.int .i64 0] 27) := ⟨_, rfl⟩
  have s1 : w1.heap.size = w.heap.size + 1 := by rw [hw1]; simp
  have s2 : w2.heap.size = w.heap.size + 1 + 1 := by rw [hw2]; simp [s1]
  have r1 : RowIs w3 w.heap.size 25 c := by
    rw [hw3, hw2]
    refine RowIs.alloc (RowIs.alloc ?_ _) _
    rw [hw1]; exact RowIs.new w c _
  have r2 : RowIs w3 (w.heap.size + 1) 25 zeroCap := by
    rw [hw3]
    refine RowIs.alloc ?_ _
    rw [hw2, ← s1, zeroCap_eq]; exact RowIs.new w1 _ _
  have r3 : RowIs w3 (w.heap.size + 1 + 1) 27 [.int .i64 0] := by
    rw [hw3, ← s2]; exact RowIs.new w2 [.int .i64 0] _
  have hB : Below w.heap.size w w3 := by
    rw [hw3, hw2, hw1]
    exact (((Below.refl _ w).alloc (Nat.le_refl _) _).alloc (by simp) _).alloc (by simp; omega) _
  have E1 := r1.loads (P := Tryd.prog) 34 hcl
  have HH := Lib.hid (And.intro r2 (And.intro r3 hB))
  have c0 := (r3.cell 0).trans (show _ = some (Value.int .i64 0) from rfl)
  have f0 := r3.frozen 0
  clear r1 r2 r3 hB hc s1 s2 hn h1 h2
  go_enter_defers Tryd.func12, Tryd.ntmps12
  go_upto_region 1 with fail
  rw [← hw1, ← hw2, ← hw3]
  clear hw1 hw2 hw3
  go_wp2_with fail
  refine (C1.out _).mono ?_
  rintro e w4 ⟨rfl, rfl⟩
  go_wp2_with fail
  refine (demand_ok _ _).mono ?_
  rintro e w4 ⟨rfl, rfl⟩
  go_wp2_with fail
  refine (C2.out _).mono ?_
  rintro e w4 ⟨rfl, hB4⟩
  go_wp2_with fail
  refine (demand_bad _ _).mono ?_
  rintro e w5 ⟨rfl, rfl⟩
  have H4 := Lib.hid (And.intro (HH.out.1.below hB4 HH.out.1.lt) (And.intro (HH.out.2.1.below hB4 HH.out.2.1.lt) (HH.out.2.2.trans (hB4.mono HH.out.2.2.size))))
  have c0 := (H4.out.2.1.cell 0).trans (show _ = some (Value.int .i64 0) from rfl)
  have f0 := H4.out.2.1.frozen 0
  clear hB4 E1
  go_wp2_with fail
  refine leaves_cons (f := 31) (args := #[.pointer (some ⟨w.heap.size + 1 + 1, 0, none⟩)]) (by simp) (by simp [go_sem]) ?_
  refine (turn1_fail 110 0 (w.heap.size + 1 + 1) [] _ c0 f0).mono ?_
  rintro e u' w9 ⟨rfl, rfl, rfl⟩
  have h2 := (H4.out.1.apart (Apart.setCell w4 (w.heap.size + 1 + 1) 0 (.int .i64 110)) (by omega)).alloc (.cells #[.int .i64 110] 60)
  refine ⟨.tuple #[.agg zeroCap.toArray, .int .i64 110], results_row_cell rfl _ _ (w.heap.size + 1) _ zeroCap.toArray (0, 0) _ rfl h2 Tryd.underlying25 rfl (by kernel_rfl) (w.heap.size + 1 + 1) 0 (.int .i64 110) rfl (isAgg_int .i64 (by kernel_rfl)) (((H4.out.2.1.set 0 _).alloc _).cell 0), rfl, (below_setCell H4.out.2.2 (by omega) _ _).alloc (by simpa using H4.out.2.2.size) _⟩
end Go.Proofs.YtejjincnghmbbaaDoor

/- proxy.Open: its two closures. -/
namespace Go.Proofs.YtejjincnghmbbaaDoor
open Go.RowKit

theorem PP_P : PP = Chart.P := rfl
theorem Grp.pow {a : Nat} (h : Grp a) (k : Nat) : Grp (a ^ k % PP) := Chart.elem_pow h k
theorem Grp.mul {a b : Nat} (h : Grp a) (g : Grp b) : Grp (a * b % PP) := Chart.elem_mul h g

set_option maxRecDepth 20000 in
set_option maxHeartbeats 4000000 in
theorem open2_any (x a : Nat) (hx0 : 0 < x) (hx : x < Chart.Q) (ha : Grp a) (bp bc : Nat) (Tp Tc : TypeId) (cs : List Value) (w : World) (hp : RowIs w bp Tp [.int .i64 x]) (hc : RowIs w bc Tc (.int .i64 (a : Int) :: cs)) :
    Calls Tryd.prog 43 #[.pointer (some ⟨bc, 0, none⟩), .pointer (some ⟨bp, 0, none⟩)] w fun e w' => e = .returned (.int .i64 ((a ^ Chart.finv x % PP : Nat) : Int)) ∧ Below w.heap.size w w' := by
  have C1 := Lib.hid (finv_any x hx0 hx)
  have C2 := Lib.hid (gexp_ok a (Chart.finv x) ha (Chart.finv_lt x))
  obtain ⟨i, hi⟩ : ∃ i, i = Chart.finv x := ⟨_, rfl⟩
  rw [← hi] at C1 C2 ⊢
  obtain ⟨r, hr⟩ : ∃ r, r = a ^ i % PP := ⟨_, rfl⟩
  rw [← hr] at C2 ⊢
  have c0 := (hc.cell 0).trans (show _ = some (Value.int .i64 (a : Int)) from rfl)
  have p0 := (hp.cell 0).trans (show _ = some (Value.int .i64 (x : Int)) from rfl)
  have HH := Lib.hid (And.intro hp hc)
  clear hi hr hx0 hx ha hp hc
  go_enter Tryd.func43, Tryd.ntmps43
  go_upto_region 1 with fail
  go_region_with
    (first
      | (go_at_call 20
         refine (C1.out w.drew).mono ?_
         rintro e w1 ⟨rfl, hB1⟩
         have hB1 : Below w.heap.size w w1 := (drew_below w).trans hB1
         have c01 := ((bcell hB1).1 bc 0 HH.out.2.lt).trans c0
         have H1 := Lib.hid hB1
         clear hB1)
      | (go_at_call 27
         refine (must_ok _ _).mono ?_
         rintro e w2 ⟨rfl, rfl⟩)
      | (go_at_call 32
         refine (C2.out _).mono ?_
         rintro e w3 ⟨rfl, hB3⟩
         have H3 := Lib.hid (H1.out.trans (hB3.mono H1.out.size))
         clear hB3))
  all_goals
    go_wp2_with fail
    go_ret
    exact ⟨rfl, H3.out⟩

set_option maxRecDepth 20000 in
set_option maxHeartbeats 4000000 in
theorem open3_any (z b : Nat) (hz : Grp z) (hb : Grp b) (bc : Nat) (Tc : TypeId) (v : Value) (cs : List Value) (w : World) (hc : RowIs w bc Tc (v :: .int .i64 (b : Int) :: cs)) :
    Calls Tryd.prog 44 #[.int .i64 z, .pointer (some ⟨bc, 0, none⟩)] w fun e w' => e = .returned (.int .i64 ((b * (z ^ (Chart.Q - 1) % PP) % PP : Nat) : Int)) ∧ Below w.heap.size w w' := by
  have C1 := Lib.hid (ginv_ok z hz)
  have C2 := Lib.hid (gmul_ok b (z ^ (Chart.Q - 1) % PP) hb (hz.pow _))
  obtain ⟨i, hi⟩ : ∃ i, i = z ^ (Chart.Q - 1) % PP := ⟨_, rfl⟩
  rw [← hi] at C1 C2 ⊢
  obtain ⟨r, hr⟩ : ∃ r, r = b * i % PP := ⟨_, rfl⟩
  rw [← hr] at C2 ⊢
  have c0 := (hc.cell 1).trans (show _ = some (Value.int .i64 (b : Int)) from rfl)
  have HH := Lib.hid hc
  clear hi hr hz hb hc
  go_enter Tryd.func44, Tryd.ntmps44
  go_upto_region 1 with fail
  go_region_with
    (first
      | (go_at_call 45
         refine (C1.out w.drew).mono ?_
         rintro e w1 ⟨rfl, hB1⟩
         have hB1 : Below w.heap.size w w1 := (drew_below w).trans hB1
         have c01 := ((bcell hB1).1 bc 1 HH.out.lt).trans c0
         have H1 := Lib.hid hB1
         clear hB1)
      | (go_at_call 27
         refine (must_ok _ _).mono ?_
         rintro e w2 ⟨rfl, rfl⟩)
      | (go_at_call 40
         refine (C2.out _).mono ?_
         rintro e w3 ⟨rfl, hB3⟩
         have H3 := Lib.hid (H1.out.trans (hB3.mono H1.out.size))
         clear hB3))
  all_goals
    go_wp2_with fail
    go_ret
    exact ⟨rfl, H3.out⟩
end Go.Proofs.YtejjincnghmbbaaDoor
