/- Powers by the bits of the exponent, the highest one first; in plain Lean. -/
import Derived.RangeFuncNested
import Derived.RangeFuncFrom
import Derived.RangeFuncBound
import Derived.RangeFuncCalls
import Derived.RangeFuncLeaves
import Derived.Shelf.Abstract
import Derived.Shelf.RegionOpen
import Derived.OwnWalkIn
import Derived.TacticsInMore
import Derived.LoopNIn
import Derived.LoopIn
import Derived.Laws.EntriesVeiled
import Derived.Laws.ResultCell
import Derived.Test.YtgklcfipgdbbgaaGreatDoorM5
import Derived.Test.YtgklcfipgdbbgaaGreatDoorM6
import Derived.Test.YtgklcfipgdbbgaaGreatDoorM1
import Derived.Test.YtgklcfipgdbbgaaGreatDoorM2
namespace Chart

/-- The lowest n bits of a number, the highest one first. -/
def bitsOf (k : Nat) : Nat → List Bool
  | 0 => []
  | n + 1 => k.testBit n :: bitsOf k n

theorem bitsOf_length (k n : Nat) : (bitsOf k n).length = n := by
  induction n with
  | zero => rfl
  | succ n ih => simp [bitsOf, ih]

def pstep (m a c : Nat) (b : Bool) : Nat := if b then (c * c % m) * a % m else c * c % m
def pfold (m a : Nat) (l : List Bool) : Nat := l.foldl (pstep m a) 1

theorem pfold_nil (m a : Nat) : pfold m a [] = 1 := rfl
theorem pfold_snoc (m a : Nat) (l : List Bool) (b : Bool) : pfold m a (l ++ [b]) = pstep m a (pfold m a l) b := by simp [pfold]

theorem mod_two_pow_succ (k n : Nat) : k % 2 ^ (n + 1) = (if k.testBit n then 2 ^ n else 0) + k % 2 ^ n := by
  rw [Nat.pow_succ, Nat.mod_mul]
  have : k.testBit n = decide (k / 2 ^ n % 2 = 1) := by rw [Nat.testBit_eq_decide_div_mod_eq]
  rw [this]
  by_cases h : k / 2 ^ n % 2 = 1
  · simp [h]; omega
  · have h0 : k / 2 ^ n % 2 = 0 := by omega
    simp [h0]

theorem foldl_bits (m a k : Nat) : ∀ (n c : Nat), ((bitsOf k n).foldl (pstep m a) c) % m = c ^ (2 ^ n) * a ^ (k % 2 ^ n) % m
  | 0, c => by simp [bitsOf, Nat.mod_one]
  | n + 1, c => by
    simp only [bitsOf, List.foldl_cons]
    rw [foldl_bits m a k n]
    have hsq : (c * c % m) ^ 2 ^ n % m = c ^ 2 ^ (n + 1) % m := by
      rw [← Nat.pow_mod, ← Nat.pow_two, ← Nat.pow_mul, Nat.pow_succ, Nat.mul_comm 2]
    rw [mod_two_pow_succ]
    unfold pstep
    cases k.testBit n with
    | false =>
      simp only [Bool.false_eq_true, if_false, Nat.zero_add]
      rw [Nat.mul_mod, hsq, ← Nat.mul_mod]
    | true =>
      simp only [if_true]
      have h2 : (c * c % m * a % m) ^ 2 ^ n % m = c ^ 2 ^ (n + 1) * a ^ 2 ^ n % m := by
        rw [← Nat.pow_mod, Nat.mul_pow, Nat.mul_mod, hsq, ← Nat.mul_mod]
      rw [Nat.mul_mod, h2, ← Nat.mul_mod, Nat.mul_assoc, ← Nat.pow_add]

theorem pfold_lt (m a : Nat) (hm : 1 < m) (l : List Bool) : pfold m a l < m := by
  unfold pfold
  generalize hc : 1 = c
  have h : c < m := by omega
  clear hc
  induction l generalizing c with
  | nil => exact h
  | cons b l ih =>
    simp only [List.foldl_cons]
    apply ih
    unfold pstep
    split <;> exact Nat.mod_lt _ (by omega)

theorem pfold_bits (m a k n : Nat) (hm : 1 < m) (h : k < 2 ^ n) : pfold m a (bitsOf k n) = a ^ k % m := by
  have h1 := foldl_bits m a k n 1
  rw [Nat.one_pow, Nat.one_mul, Nat.mod_eq_of_lt h] at h1
  rw [← h1]
  exact (Nat.mod_eq_of_lt (pfold_lt m a hm _)).symm

/-- From the other end: c * a ^ k does not change while a bit of k is taken off. -/
theorem low_bit (m c a k : Nat) : (if k % 2 = 1 then c * a % m else c) * (a * a % m) ^ (k / 2) % m = c * a ^ k % m := by
  have e : (a * a % m) ^ (k / 2) % m = a ^ (2 * (k / 2)) % m := by rw [← Nat.pow_mod, ← Nat.pow_two, ← Nat.pow_mul]
  by_cases h : k % 2 = 1
  · rw [if_pos h, Nat.mul_mod, Nat.mod_mod, e, ← Nat.mul_mod, Nat.mul_assoc, ← Nat.pow_succ']
    congr 3
    omega
  · rw [if_neg h, Nat.mul_mod, e, ← Nat.mul_mod]
    congr 3
    omega

end Chart

/- field.binary (an iterator over bits), field.power, Inv, Pow. -/
namespace Go.Proofs.YtgklcfipgdbbgaaGreatDoor
open Go.RowKit Go.Shelf
attribute [local go_sem] Oper.semAt_some

theorem bit_of_i64 (k j : Nat) (hk : k < 9223372036854775808) : (bits BinOp.and IntKind.i64 ((k : Int) / 2 ^ j) 1 == 1) = k.testBit j := by
  have e : (k : Int) / 2 ^ j = ((k / 2 ^ j : Nat) : Int) := by simp
  have hle := Nat.div_le_self k (2 ^ j)
  have h : bits BinOp.and IntKind.i64 ((k / 2 ^ j : Nat) : Int) 1 = ((k / 2 ^ j % 2 : Nat) : Int) := by
    show IntKind.i64.wrap ((BitVec.ofInt 64 ((k / 2 ^ j : Nat) : Int) &&& BitVec.ofInt 64 1).toNat : Int) = _
    have h1 : (BitVec.ofInt 64 1).toNat = 1 := by decide
    have h2 : (BitVec.ofInt 64 ((k / 2 ^ j : Nat) : Int)).toNat = k / 2 ^ j := by
      rw [BitVec.ofInt_natCast, BitVec.toNat_ofNat]; exact Nat.mod_eq_of_lt (by omega)
    rw [BitVec.toNat_and, h1, h2, Nat.and_one_is_mod]
    exact wrap_i64_small _ (by omega) (by omega)
  rw [e, h, Nat.testBit_eq_decide_div_mod_eq]
  by_cases hb : k / 2 ^ j % 2 = 1
  · rw [hb]; rfl
  · have h0 : k / 2 ^ j % 2 = 0 := by omega
    rw [h0]; rfl

set_option maxRecDepth 100000 in
set_option maxHeartbeats 1000000 in
theorem binary1_in (n : Nat) (hn : 1 ≤ n) (l Bn k : Nat) (hk : k < 9223372036854775808) (J Jx : List Bool → World → Prop)
    (hY : ∀ pre x W, J pre W → pre.length < Lib.bitLen k → YieldAt Fence.wide (n - 1) Tryz.prog l #[.bool x] W fun e W' =>
      (e = .returned (.bool true) ∧ J (pre ++ [x]) W' ∧ KeepsCell Bn W W') ∨ (e = .returned (.bool false) ∧ Jx (pre ++ [x]) W'))
    (W : World) (hBn : W.cell? ⟨Bn, 0, none⟩ = some (.int .i64 k)) (h0 : J [] W) :
    CallsIn Fence.wide n Tryz.prog 111 #[.func (.yield l) #[] #[], .pointer (some ⟨Bn, 0, none⟩)] W fun e W' => (∃ v, e = .returned v) ∧
      ((∃ ys, ys = Chart.bitsOf k (Lib.bitLen k) ∧ J ys W') ∨ (∃ pre, pre <+: Chart.bitsOf k (Lib.bitLen k) ∧ Jx pre W')) := by
  refine callsIn_of_wp Tryz.func111 rfl trivial ?_ rfl
  simp only [Tryz.ntmps111, List.size_toArray, List.length_cons, List.length_nil, Nat.reduceAdd, Nat.reduceSub, Array.replicate_succ, Array.replicate_zero, List.push_toArray, List.append_toArray, List.nil_append, List.cons_append]
  have hl := bitLen_le k (by omega)
  have e0 : IntKind.u64.wrap (k : Int) = (k : Int) := wrap_small k (by omega)
  gi_wp2_with fail
  refine ⟨trivial, (callsIn_wide.2 (len_any (k : Int) (by omega) (by omega) W)).mono ?_⟩
  rintro e w' ⟨rfl, rfl⟩
  rw [Int.toNat_natCast]
  have hlen := Chart.bitsOf_length k (Lib.bitLen k)
  generalize hL : Lib.bitLen k = L at *
  have HL := Lib.hid hL; clear hL
  have Hlen := Lib.hid hlen; clear hlen
  gi_wp2_with fail
  gi_loopw [3] (fun i wr => ∃ (pre : List Bool) (j : Nat), j ≤ L ∧ i = .int .i64 ((j : Int) - 1) ∧ Hid (Chart.bitsOf k L = pre ++ Chart.bitsOf k j) ∧ J pre wr ∧ wr.cell? ⟨Bn, 0, none⟩ = some (.int .i64 k))
    (fun i _ => (intOf i + 1).toNat)
  case atStart =>
    exact ⟨[], L, Nat.le_refl _, rfl, Lib.hid rfl, h0, hBn⟩
  case round =>
    obtain ⟨pre, j, hj, rfl, hx, hJ, hB⟩ := hrel
    cases j with
    | zero =>
      gi_wp2
      go_end0
      exact ⟨⟨_, rfl⟩, .inl ⟨pre, by rw [HL.out, hx.out]; simp [Chart.bitsOf], hJ⟩⟩
    | succ j =>
      have hpl : pre.length < L := by
        have := congrArg List.length hx.out
        rw [Hlen.out, List.length_append, Chart.bitsOf_length] at this
        omega
      have hbit := bit_of_i64 k j hk
      have hpre : Chart.bitsOf k L = (pre ++ [k.testBit j]) ++ Chart.bitsOf k j := by rw [hx.out]; simp [Chart.bitsOf]
      generalize k.testBit j = x at *
      have Hpre := Lib.hid hpre; clear hpre hx
      obtain ⟨fn, tmps, assign, body, hy, hR⟩ := hY pre x wr hJ hpl
      gi_wp2_with fail
      refine hR.mono ?_
      rintro e W3 (⟨rfl, hJ3, hk3⟩ | ⟨rfl, hJx3⟩)
      · have hB3 : W3.cell? ⟨Bn, 0, none⟩ = some (.int .i64 k) := hk3.trans hB
        gi_wp2
        go_roundw
        case rel => exact ⟨pre ++ [x], j, by omega, by first | rfl | (congr 1; omega), Hpre, hJ3, hB3⟩
        case measure => simp [intOf] <;> omega
      · gi_wp2
        refine bodyPost_ret (results_none rfl _ _ _) rfl ?_
        exact ⟨⟨_, rfl⟩, .inr ⟨pre ++ [x], ⟨Chart.bitsOf k j, by rw [HL.out]; exact Hpre.out.symm⟩, hJx3⟩⟩

theorem binary1_stops (n : Nat) (hn : 1 ≤ n) (Bn k : Nat) (hk : k < 9223372036854775808) (w : World) (hlt : Bn < w.heap.size) (hBn : w.cell? ⟨Bn, 0, none⟩ = some (.int .i64 k)) :
    SeqStopsK Fence.wide n Tryz.prog 111 #[.pointer (some ⟨Bn, 0, none⟩)] (fun x : Bool => #[Value.bool x]) (KeepsCell Bn) (fun xs => xs = Chart.bitsOf k (Lib.bitLen k)) (fun pre => pre <+: Chart.bitsOf k (Lib.bitLen k)) (Lib.bitLen k) w :=
  fun l J Jx W hW _ _ hY h0 => binary1_in n hn l Bn k hk J Jx (fun pre x W1 hJ hlen => hY pre x W1 hJ hlen) W ((hW.cell (p := ⟨Bn, 0, none⟩) hlt).trans hBn) h0

theorem binary_any (k : Int) (w : World) :
    Calls Tryz.prog 99 #[.int .i64 k] w fun e w' => e = .returned (.func (.func 111) #[] #[.pointer (some ⟨w.heap.size, 0, none⟩)]) ∧ w.alloc (.cells #[.int .i64 k] 3) = w' := by
  go_enter Tryz.func99, Tryz.ntmps99
  go_wp2
  go_ret
  exact ⟨rfl, rfl⟩

/-- The closure that multiplies what it has captured. -/
def Times (B c : Nat) (w : World) (e : Ending) (w' : World) : Prop := e = .returned (.tuple #[]) ∧ ∃ w1, Below w.heap.size w w1 ∧ w1.setCell ⟨B, 0, none⟩ (.int .i64 (c : Int)) = w'

theorem ftimes_any (c b B : Nat) (hc : c < Chart.Q) (hb : b < Chart.Q) (w : World) (hcell : w.cell? ⟨B, 0, none⟩ = some (.int .i64 c)) (hfr : w.frozen? ⟨B, 0, none⟩ = false) :
    Calls Tryz.prog 98 #[.int .i64 b, .pointer (some ⟨B, 0, none⟩)] w (Times B (c * b % Chart.Q) w) := by
  have hlt := cell_lt hcell
  have C1 := Lib.hid (product_any c b hc hb w)
  generalize c * b % Chart.Q = r at *
  go_enter Tryz.func98, Tryz.ntmps98
  go_wp2_with fail
  refine C1.out.mono ?_
  rintro e w1 ⟨rfl, hb1⟩
  have h1c : w1.cell? ⟨B, 0, none⟩ = some (.int .i64 c) := ((bcell hb1).1 _ _ hlt).trans hcell
  have h1f : w1.frozen? ⟨B, 0, none⟩ = false := ((bcell hb1).2 _ _ hlt).trans hfr
  go_wp2_with fail
  go_end0
  exact ⟨rfl, w1, hb1, rfl⟩

/-- What a round of the power knows of its memory. -/
def PowI (w : World) (a c : Nat) (W : World) : Prop :=
  (W.cell? ⟨w.heap.size, 0, none⟩ = some (.int .i64 (a : Int)) ∧ W.cell? ⟨w.heap.size + 1, 0, none⟩ = some (.int .i64 (c : Int)) ∧ W.frozen? ⟨w.heap.size + 1, 0, none⟩ = false ∧
    W.cell? ⟨w.heap.size + 1 + 1, 0, none⟩ = some (.func (.func 98) #[] #[.pointer (some ⟨w.heap.size + 1, 0, none⟩)]) ∧ w.heap.size + 4 ≤ W.heap.size) ∧ Below w.heap.size w W

theorem powI_own (w : World) (a : Nat) (f : List Bool → Nat) : OwnFrom (w.heap.size + 4) (fun pre W => PowI w a (f pre) W) :=
  OwnFrom.and (Own.from (fun s A B row hs hg hr => ⟨cell_kept hs.1 hg hr, cell_kept hs.2.1 hg hr, (frozen_kept hs.2.1 hg hr).trans hs.2.2.1, cell_kept hs.2.2.2.1 hg hr, Nat.le_trans hs.2.2.2.2 hg.size⟩) _) (ownFrom_below (Nat.le_refl _) (by omega))

/-- A call of the closure. -/
theorem powI_times {w W W' : World} {a c d : Nat} {e : Ending} (h : PowI w a c W) (ht : Times (w.heap.size + 1) d W e W') :
    PowI w a d W' ∧ KeepsOthers W W' ∧ KeepsCell (w.heap.size + 1 + 1 + 1) W W' := by
  obtain ⟨⟨h1, h2, h3, h4, h5⟩, hB⟩ := h
  obtain ⟨_, w1, hb1, rfl⟩ := ht
  obtain ⟨bc, bf⟩ := bcell hb1
  have hs := hb1.size
  refine ⟨⟨⟨?_, ?_, ?_, ?_, ?_⟩, ?_⟩, ?_, ?_⟩
  · rw [cell_set_other (by omega), bc _ _ (by omega)]; exact h1
  · exact cell_set_same _ _ _ _ ((bc _ _ (by omega)).trans h2)
  · rw [frozen_set, bf _ _ (by omega)]; exact h3
  · rw [cell_set_other (by omega), bc _ _ (by omega)]; exact h4
  · simp; omega
  · exact below_setCell (hB.trans (hb1.mono (by omega))) (by omega) _ _
  · exact (keepsOthers_below hb1).trans (KeepsOthers.setCell _ _ _)
  · exact keepsCell_t (keepsCell_below hb1 (by omega)) (keepsCell_set (by omega) _)

set_option maxRecDepth 100000 in
set_option maxHeartbeats 2000000 in
theorem fpower_any (a k : Nat) (ha : a < Chart.Q) (hk : k < 9223372036854775808) (w : World) :
    Calls Tryz.prog 87 #[.int .i64 a, .int .i64 k] w fun e w' => e = .returned (.int .i64 ((a ^ k % Chart.Q : Nat) : Int)) ∧ Below w.heap.size w w' := by
  refine (callsIn_wide (n := 6)).1 ?_
  refine callsIn_of_wp_marks Tryz.func87 rfl trivial ?_ rfl
  simp only [Tryz.ntmps87, List.size_toArray, List.length_cons, List.length_nil, Nat.reduceAdd, Nat.reduceSub, Array.replicate_succ, Array.replicate_zero, List.push_toArray, List.append_toArray, List.nil_append, List.cons_append]
  gi_wp2_with fail
  refine ⟨trivial, (callsIn_wide.2 (binary_any (k : Int) _)).mono ?_⟩
  rintro e w' ⟨rfl, rfl⟩
  gi_wp2_with fail
  obtain ⟨W1, hW1⟩ : ∃ W1, w.alloc (.cells #[.int .i64 (a : Int)] 3) = W1 := ⟨_, rfl⟩
  obtain ⟨W2, hW2⟩ : ∃ W2, W1.alloc (.cells #[.int .i64 1] 3) = W2 := ⟨_, rfl⟩
  obtain ⟨W3, hW3⟩ : ∃ W3, W2.alloc (.cells #[.func (.func 98) #[] #[.pointer (some ⟨w.heap.size + 1, 0, none⟩)]] 129) = W3 := ⟨_, rfl⟩
  obtain ⟨W0, hW0⟩ : ∃ W0, W3.alloc (.cells #[.int .i64 (k : Int)] 3) = W0 := ⟨_, rfl⟩
  rw [hW1, hW2, hW3, hW0]
  have s1 : W1.heap.size = w.heap.size + 1 := by rw [← hW1]; simp
  have s2 : W2.heap.size = w.heap.size + 1 + 1 := by rw [← hW2]; simp [s1]
  have s3 : W3.heap.size = w.heap.size + 1 + 1 + 1 := by rw [← hW3]; simp [s2]
  have hs0 : W0.heap.size = w.heap.size + 4 := by rw [← hW0]; simp [s3]
  have hB0 : Below w.heap.size w W0 := by
    rw [← hW0, ← hW3, ← hW2, ← hW1]
    exact ((((Below.refl _ w).alloc (Nat.le_refl _) _).alloc (by simp) _).alloc (by simp; omega) _).alloc (by simp; omega) _
  have ca : W0.cell? ⟨w.heap.size, 0, none⟩ = some (.int .i64 (a : Int)) := by
    rw [← hW0, cell_alloc _ (by omega), ← hW3, cell_alloc _ (by omega), ← hW2, cell_alloc _ (by omega), ← hW1, cell_new]; rfl
  have cc : W0.cell? ⟨w.heap.size + 1, 0, none⟩ = some (.int .i64 1) := by
    rw [← hW0, cell_alloc _ (by omega), ← hW3, cell_alloc _ (by omega), ← hW2, ← s1, cell_new]; rfl
  have fc : W0.frozen? ⟨w.heap.size + 1, 0, none⟩ = false := by
    rw [← hW0, frozen_alloc _ (by omega), ← hW3, frozen_alloc _ (by omega), ← hW2, ← s1, frozen_new]
  have cf : W0.cell? ⟨w.heap.size + 1 + 1, 0, none⟩ = some (.func (.func 98) #[] #[.pointer (some ⟨w.heap.size + 1, 0, none⟩)]) := by
    rw [← hW0, cell_alloc _ (by omega), ← hW3, ← s2, cell_new]; rfl
  have ck : W0.cell? ⟨w.heap.size + 1 + 1 + 1, 0, none⟩ = some (.int .i64 (k : Int)) := by
    rw [← hW0, ← s3, cell_new]; rfl
  clear hW1 hW2 hW3 hW0 s1 s2 s3
  have hP : 1 < Chart.Q := by decide
  refine wpIn_rangeFunc_ownF rfl (by omega) (gf := 111) (lb := #[.pointer (some ⟨w.heap.size + 1 + 1 + 1, 0, none⟩)]) rfl trivial (enters_of Tryz.func111 (by kernel_rfl) rfl)
    (binary1_stops _ (by omega) (w.heap.size + 1 + 1 + 1) k hk W0 (by omega) ck) (fun h1 h2 => keepsCell_t h1 h2) (keepsCell_b (by omega)) (Below.refl _ _) (fun _ => rfl)
    (fun pre W => PowI w a (Chart.pfold Chart.Q a pre) W)
    (fun _ _ _ => False)
    (by rw [hs0]; exact powI_own w a _)
    (fun _ _ _ _ _ hs _ _ => hs)
    ⟨⟨ca, cc, fc, cf, by omega⟩, hB0⟩
    (fun x => { tmps := #[.int .i64 (a : Int), .int .i64 (k : Int), .pointer (some ⟨w.heap.size, 0, none⟩), undef, .int .i64 0, .pointer (some ⟨w.heap.size + 1, 0, none⟩), .pointer (some ⟨w.heap.size + 1 + 1, 0, none⟩), .bool x, .func (.func 98) #[] #[.pointer (some ⟨w.heap.size + 1, 0, none⟩)], .int .i64 (k : Int), .func (.func 111) #[] #[.pointer (some ⟨w.heap.size + 1 + 1 + 1, 0, none⟩)], .bool x, undef, undef, undef, undef, undef, undef, undef, undef], defers := [] }) ?assign ?body ?done ?stop
  case assign =>
    intro l x W K hK
    gi_wp2
    exact hK
  case body =>
    rintro l pre x W hI _
    have hlt := Chart.pfold_lt Chart.Q a hP pre
    have hsn := Chart.pfold_snoc Chart.Q a pre x
    generalize Chart.pfold Chart.Q a pre = c at *
    have Hsn := Lib.hid hsn; clear hsn
    obtain ⟨⟨hca, hcc, hfc, hcf, hsz⟩, hB⟩ := hI
    have hI := Lib.hid (show PowI w a c W from ⟨⟨hca, hcc, hfc, hcf, hsz⟩, hB⟩)
    have C1 := Lib.hid (ftimes_any c c (w.heap.size + 1) hlt hlt W hcc hfc)
    have hlt2 : c * c % Chart.Q < Chart.Q := Nat.mod_lt _ (by omega)
    generalize hc2 : c * c % Chart.Q = c2 at *
    replace hc2 := Lib.hid hc2
    gi_wp2_with fail
    refine ⟨trivial, CallsIn.mono (CallsIn.inRound l (callsIn_wide.2 C1.out)) ?_⟩
    rintro e w1 ht
    obtain ⟨hI1, ho1, hk1⟩ := powI_times hI.out ht
    obtain ⟨rfl, _⟩ := ht
    cases x
    · gi_wp2_with fail
      refine ⟨ho1, hk1, ?_⟩
      show PowI w a (Chart.pfold Chart.Q a (pre ++ [false])) w1
      rw [Hsn.out]
      unfold Chart.pstep
      rw [if_neg (by decide), hc2.out]
      exact hI1
    · have hI1' := Lib.hid hI1
      obtain ⟨⟨h1a, h1c, h1f, h1g, h1s⟩, hB1⟩ := hI1
      have C3 := Lib.hid (ftimes_any c2 a (w.heap.size + 1) hlt2 ha w1 h1c h1f)
      gi_wp2_with fail
      refine ⟨trivial, CallsIn.mono (CallsIn.inRound l (callsIn_wide.2 C3.out)) ?_⟩
      rintro e w2 ht2
      obtain ⟨hI2, ho2, hk2⟩ := powI_times hI1'.out ht2
      obtain ⟨rfl, _⟩ := ht2
      gi_wp2_with fail
      refine ⟨ho1.trans ho2, keepsCell_t hk1 hk2, ?_⟩
      show PowI w a (Chart.pfold Chart.Q a (pre ++ [true])) w2
      rw [Hsn.out]
      unfold Chart.pstep
      rw [if_pos rfl, hc2.out]
      exact hI2
  case done =>
    rintro D ys W hD rfl ⟨⟨hca, hcc, hfc, hcf, hsz⟩, hB⟩ hK
    gi_wp2
    refine ⟨by simp, .inl ⟨_, _, rfl, run_takeDeferred hK, ?_⟩⟩
    exact ⟨_, results_tmp rfl _ _ _, by rw [← Chart.pfold_bits Chart.Q a k _ hP (bitLen_lt k (by omega))]; rfl, hB.trans (belowK_b (w := w) (Nat.le_refl _) W D _ _ (by omega) hK rfl rfl)⟩
  case stop =>
    rintro D c pre W _ _ h _
    exact h.elim

theorem finv_ok (a : Nat) (h0 : 0 < a) (ha : a < Chart.Q) (w : World) :
    Calls Tryz.prog 68 #[.int .i64 a] w fun e w' => e = two ((a ^ (Chart.Q - 2) % Chart.Q : Nat) : Int) 0 ∧ Below w.heap.size w w' := by
  have h := outB_nat ha
  have b0 : ((a : Int) == 0) = false := beq_eq_false_iff_ne.2 (by omega)
  have hQ2 : Chart.Q - 2 = 2305843009213688667 := rfl
  have C1 := Lib.hid (fpower_any a (Chart.Q - 2) ha (by rw [hQ2]; decide) (w.alloc (.cells #[.int .i64 (a : Int)] 3)))
  obtain ⟨r, hr⟩ : ∃ r, r = a ^ (Chart.Q - 2) % Chart.Q := ⟨_, rfl⟩
  rw [← hr] at C1 ⊢
  rw [hQ2] at C1
  clear hr hQ2 h0 ha
  go_enter Tryz.func68, Tryz.ntmps68
  go_wp2_with fail
  refine (outside_one (a : Int) w).mono ?_
  rintro e w1 ⟨rfl, rfl⟩
  rw [h]
  go_wp2_with fail
  refine C1.out.mono ?_
  rintro e w1 ⟨rfl, hb1⟩
  go_wp2_with fail
  go_ret2
  exact ⟨rfl, ((Below.refl _ _).alloc (Nat.le_refl _) _).trans (hb1.mono (by simp))⟩

theorem finv_bad (x : Int) (h : outB x = true) (w : World) :
    Calls Tryz.prog 68 #[.int .i64 x] w fun e w' => e = two 0 1 ∧ Below w.heap.size w w' := by
  go_enter Tryz.func68, Tryz.ntmps68
  go_wp2_with fail
  refine (outside_one x w).mono ?_
  rintro e w1 ⟨rfl, rfl⟩
  rw [h]
  clear h
  go_wp2_with fail
  go_ret2
  exact ⟨rfl, (Below.refl _ _).alloc (Nat.le_refl _) _⟩

theorem finv_zero (w : World) :
    Calls Tryz.prog 68 #[.int .i64 0] w fun e w' => e = two 0 30 ∧ Below w.heap.size w w' := by
  have h : outB 0 = false := rfl
  go_enter Tryz.func68, Tryz.ntmps68
  go_wp2_with fail
  refine (outside_one 0 w).mono ?_
  rintro e w1 ⟨rfl, rfl⟩
  rw [h]
  go_wp2_with fail
  go_ret2
  exact ⟨rfl, (Below.refl _ _).alloc (Nat.le_refl _) _⟩

end Go.Proofs.YtgklcfipgdbbgaaGreatDoor

/- The field's functions on elements of the field. -/
namespace Go.Proofs.YtgklcfipgdbbgaaGreatDoor
open Go.RowKit

/-- An element of the field as a value. -/
abbrev fv (a : Chart.F) : Value := .int .i64 (a.val : Int)

theorem fmulF (a b : Chart.F) (w : World) : Calls Tryz.prog 45 #[fv a, fv b] w fun e w' => e = two ((a * b).val : Nat) 0 ∧ Below w.heap.size w w' :=
  fmul_any a.val b.val a.isLt b.isLt w
theorem faddF (a b : Chart.F) (w : World) : Calls Tryz.prog 29 #[fv a, fv b] w fun e w' => e = two ((a + b).val : Nat) 0 ∧ Below w.heap.size w w' :=
  fadd_any a.val b.val a.isLt b.isLt w
theorem sub_val (a b : Chart.F) : (a - b).val = (a.val + (Chart.Q - b.val)) % Chart.Q := by
  rw [Nat.add_comm]
  rfl
theorem fsubF (a b : Chart.F) (w : World) : Calls Tryz.prog 67 #[fv a, fv b] w fun e w' => e = two ((a - b).val : Nat) 0 ∧ Below w.heap.size w w' := by
  rw [sub_val]
  exact fsub_any a.val b.val a.isLt b.isLt w
theorem zpow (x k m : Nat) (hx : x = 0) (hk : 0 < k) : x ^ k % m = 0 := by
  subst hx
  rw [Nat.zero_pow hk]
  exact Nat.zero_mod m
theorem finv_of_zero (x : Nat) (hx : x = 0) : Chart.finv x = 0 := zpow x (Chart.Q - 2) Chart.Q hx (by decide)
theorem inv_val (a : Chart.F) : (Chart.inv a).val = Chart.finv a.val := rfl
theorem inv_pow (a : Chart.F) : (Chart.inv a).val = a.val ^ (Chart.Q - 2) % Chart.Q := rfl
theorem finvF (a : Chart.F) (w : World) : Calls Tryz.prog 68 #[fv a] w fun e w' => (∃ z, e = two ((Chart.inv a).val : Nat) z) ∧ Below w.heap.size w w' := by
  by_cases h : a.val = 0
  · have h1 : (Chart.inv a).val = 0 := by rw [inv_val]; exact finv_of_zero _ h
    rw [h1, fv, h]
    refine (finv_zero w).mono ?_
    rintro e w' ⟨rfl, hb⟩
    exact ⟨⟨30, rfl⟩, hb⟩
  · rw [inv_pow]
    refine (finv_ok a.val (Nat.pos_of_ne_zero h) a.isLt w).mono ?_
    rintro e w' ⟨rfl, hb⟩
    exact ⟨⟨0, rfl⟩, hb⟩
theorem finvF_ok (a : Chart.F) (h : a ≠ 0) (w : World) : Calls Tryz.prog 68 #[fv a] w fun e w' => e = two ((Chart.inv a).val : Nat) 0 ∧ Below w.heap.size w w' := by
  rw [inv_pow]
  exact finv_ok a.val (Nat.pos_of_ne_zero (fun h1 => h (Fin.ext h1))) a.isLt w
end Go.Proofs.YtgklcfipgdbbgaaGreatDoor

/- slices.Backward of whole numbers, field.Eval. -/
namespace Go.Proofs.YtgklcfipgdbbgaaGreatDoor
open Go.RowKit Go.Shelf
attribute [local go_sem] Oper.semAt_some

/-- Two blocks stay as they are. -/
def Keep2 (a b : Nat) (W W' : World) : Prop := W'.heap[a]? = W.heap[a]? ∧ W'.heap[b]? = W.heap[b]?
theorem keep2_t {a b : Nat} {X Y Z : World} (h : Keep2 a b X Y) (k : Keep2 a b Y Z) : Keep2 a b X Z := ⟨k.1.trans h.1, k.2.trans h.2⟩
theorem keep2_refl (a b : Nat) (W : World) : Keep2 a b W W := ⟨rfl, rfl⟩
theorem keep2_put {a b n : Nat} (ha : a < n) (hb : b < n) (W : World) (l : Nat) (o o' : Obj) (hl : n ≤ l) (_ : W.heap[l]? = some o) (_ : o.isCells = false) (_ : o.isWalk = false) : Keep2 a b W (W.putObj l o') :=
  ⟨World.putObj_heap_other (by omega), World.putObj_heap_other (by omega)⟩
theorem keep2_below {a b : Nat} {W W' : World} (hb : Below W.heap.size W W') (h1 : a < W.heap.size) (h2 : b < W.heap.size) : Keep2 a b W W' := ⟨hb.block a h1, hb.block b h2⟩
theorem keep2_set {a b c : Nat} {W : World} (h1 : a ≠ c) (h2 : b ≠ c) (v : Value) : Keep2 a b W (W.setCell ⟨c, 0, none⟩ v) := ⟨Below.heap_setCell _ _ _ _ h1, Below.heap_setCell _ _ _ _ h2⟩

/-- Elements of the field as whole numbers. -/
def nums (cs : List Chart.F) : List Int := cs.map fun c => (c.val : Int)
theorem nums_length (cs : List Chart.F) : (nums cs).length = cs.length := List.length_map ..
theorem nums_at (cs : List Chart.F) (i : Nat) (h : i < (nums cs).length) : (nums cs)[i] = ((cs[i]'(by rw [nums_length] at h; exact h)).val : Int) := List.getElem_map ..

set_option maxRecDepth 100000 in
set_option maxHeartbeats 1000000 in
theorem backward1_in (n : Nat) (hn : 1 ≤ n) (l A g off cap : Nat) (cs : List Chart.F) (hm : cs.length ≤ 2147483647) (J Jx : List (Nat × Chart.F) → World → Prop)
    (hY : ∀ pre x W, J pre W → pre.length < cs.length → YieldAt Fence.wide (n - 1) Tryz.prog l #[.int .i64 (x.1 : Nat), fv x.2] W fun e W' =>
      (e = .returned (.bool true) ∧ J (pre ++ [x]) W' ∧ Keep2 A g W W') ∨ (e = .returned (.bool false) ∧ Jx (pre ++ [x]) W'))
    (W : World) (hA : W.cell? ⟨A, 0, none⟩ = some (.slice (some ⟨g, off, none⟩) cs.length cap)) (hc : IntsAt W g off (nums cs)) (h0 : J [] W) :
    CallsIn Fence.wide n Tryz.prog 60 #[.func (.yield l) #[] #[], .pointer (some ⟨A, 0, none⟩)] W fun e W' => (∃ v, e = .returned v) ∧
      ((∃ ys : List (Nat × Chart.F), ys.map Prod.snd = cs.reverse ∧ J ys W') ∨ (∃ pre, True ∧ Jx pre W')) := by
  refine callsIn_of_wp Tryz.func60 rfl trivial ?_ rfl
  simp only [Tryz.ntmps60, List.size_toArray, List.length_cons, List.length_nil, Nat.reduceAdd, Nat.reduceSub, Array.replicate_succ, Array.replicate_zero, List.push_toArray, List.append_toArray, List.nil_append, List.cons_append]
  obtain ⟨L, hL⟩ : ∃ L, L = cs.length := ⟨_, rfl⟩
  rw [← hL] at hm hY hA
  have HL := Lib.hid hL
  have Hc := Lib.hid hc
  clear hL hc
  gi_wp2_with fail
  gi_loopw [3] (fun i wr => ∃ (pre : List (Nat × Chart.F)) (j : Nat) (z : Int), j ≤ L ∧ i = .int .i64 z ∧ z = (j : Int) - 1 ∧ Hid (cs.reverse = pre.map Prod.snd ++ (cs.take j).reverse) ∧ J pre wr ∧ Keep2 A g W wr)
    (fun i _ => (intOf i + 1).toNat)
  case atStart =>
    exact ⟨[], L, _, Nat.le_refl _, rfl, by first | rfl | go_num, Lib.hid (by rw [HL.out, List.take_length]; rfl), h0, keep2_refl _ _ _⟩
  case round =>
    obtain ⟨pre, j, z, hj, rfl, hz, hx, hJ, hK⟩ := hrel
    cases j with
    | zero =>
      subst hz
      gi_wp2
      go_end0
      exact ⟨⟨_, rfl⟩, .inl ⟨pre, by rw [hx.out]; simp, hJ⟩⟩
    | succ j =>
      obtain rfl : z = (j : Int) := by omega
      clear hz
      have hpl : pre.length < L := by
        have := congrArg List.length hx.out
        rw [List.length_append, List.length_map, List.length_reverse, List.length_reverse, List.length_take] at this
        have := HL.out
        omega
      have hjc : j < cs.length := by have := HL.out; omega
      have hpre : cs.reverse = (pre ++ [(j, cs[j])]).map Prod.snd ++ (cs.take j).reverse := by
        rw [hx.out, List.take_succ_eq_append_getElem hjc]
        simp
      have hA' : wr.cell? ⟨A, 0, none⟩ = some (.slice (some ⟨g, off, none⟩) L cap) := (World.cell?_of_block (a := ⟨A, 0, none⟩) hK.1).trans hA
      have hcell : wr.cell? ⟨g, off + j, none⟩ = some (fv cs[j]) := by
        rw [World.cell?_of_block (a := ⟨g, off + j, none⟩) hK.2]
        have := Hc.out j (by rw [nums_length]; exact hjc)
        rw [nums_at] at this
        exact this
      obtain ⟨c, hcc⟩ : ∃ c, c = cs[j] := ⟨_, rfl⟩
      rw [← hcc] at hpre hcell
      have Hpre := Lib.hid hpre
      clear hpre hx hcc
      have hjL : (j : Int) < (L : Int) := by omega
      obtain ⟨fn, tmps, assign, body, hy, hR⟩ := hY pre (j, c) wr hJ hpl
      gi_wp2_with fail
      refine hR.mono ?_
      rintro e W3 (⟨rfl, hJ3, hk3⟩ | ⟨rfl, hJx3⟩)
      · have hK3 := keep2_t hK hk3
        gi_wp2_with fail
        go_roundw
        case rel => exact ⟨pre ++ [(j, c)], j, _, by omega, rfl, by first | rfl | go_num | omega, Hpre, hJ3, hK3⟩
        case measure => simp [intOf] <;> omega
      · gi_wp2_with fail
        refine bodyPost_ret (results_none rfl _ _ _) rfl ?_
        exact ⟨⟨_, rfl⟩, .inr ⟨pre ++ [(j, c)], trivial, hJx3⟩⟩

theorem backward1_stops (n : Nat) (hn : 1 ≤ n) (A g off cap : Nat) (cs : List Chart.F) (hm : cs.length ≤ 2147483647) (w : World) (hA : w.cell? ⟨A, 0, none⟩ = some (.slice (some ⟨g, off, none⟩) cs.length cap)) (hc : IntsAt w g off (nums cs)) (hlA : A < w.heap.size) (hlg : g < w.heap.size) :
    SeqStopsK Fence.wide n Tryz.prog 60 #[.pointer (some ⟨A, 0, none⟩)] (fun x : Nat × Chart.F => #[Value.int .i64 (x.1 : Nat), fv x.2]) (Keep2 A g) (fun ys => ys.map Prod.snd = cs.reverse) (fun _ => True) cs.length w :=
  fun l J Jx W hW _ _ hY h0 => backward1_in n hn l A g off cap cs hm J Jx (fun pre x W1 hJ hlen => hY pre x W1 hJ hlen) W ((hW.cell (p := ⟨A, 0, none⟩) hlA).trans hA) (fun i hi => by rw [(bcell hW).1 g _ hlg]; exact hc i hi) h0

theorem backward_any (a : Option Addr) (n cap : Nat) (w : World) :
    Calls Tryz.prog 37 #[.slice a n cap] w fun e w' => e = .returned (.func (.func 60) #[] #[.pointer (some ⟨w.heap.size, 0, none⟩)]) ∧ w.alloc (.cells #[.slice a n cap] 41) = w' := by
  go_enter Tryz.func37, Tryz.ntmps37
  go_wp2_with fail
  go_ret
  exact ⟨rfl, rfl⟩

theorem outside_nums (cs : List Chart.F) : (nums cs).any outB = false := by
  rw [List.any_eq_false]
  intro x hx
  obtain ⟨c, _, rfl⟩ := List.mem_map.1 hx
  rw [outB_nat c.isLt]
  simp

/-- What a round of Eval knows of its memory. -/
def EvI (w : World) (x y : Chart.F) (W : World) : Prop :=
  (W.cell? ⟨w.heap.size, 0, none⟩ = some (fv x) ∧ W.cell? ⟨w.heap.size + 1, 0, none⟩ = some (fv y) ∧ W.frozen? ⟨w.heap.size + 1, 0, none⟩ = false ∧ w.heap.size + 4 ≤ W.heap.size) ∧ Below w.heap.size w W
theorem evI_own (w : World) (x : Chart.F) (f : List (Nat × Chart.F) → Chart.F) : OwnFrom (w.heap.size + 4) (fun pre W => EvI w x (f pre) W) :=
  OwnFrom.and (Own.from (fun s A B row hs hg hr => ⟨cell_kept hs.1 hg hr, cell_kept hs.2.1 hg hr, (frozen_kept hs.2.1 hg hr).trans hs.2.2.1, Nat.le_trans hs.2.2.2 hg.size⟩) _) (ownFrom_below (Nat.le_refl _) (by omega))

/-- Evaluation round by round. -/
def evR (x : Chart.F) (pre : List (Nat × Chart.F)) : Chart.F := pre.foldl (fun y p => y * x + p.2) 0
theorem evR_snoc (x : Chart.F) (pre : List (Nat × Chart.F)) (p : Nat × Chart.F) : evR x (pre ++ [p]) = evR x pre * x + p.2 := by unfold evR; rw [List.foldl_append]; rfl
theorem evR_all (x : Chart.F) (ys : List (Nat × Chart.F)) (cs : List Chart.F) (h : ys.map Prod.snd = cs.reverse) : evR x ys = Chart.ev cs x := by
  have e : evR x ys = (ys.map Prod.snd).foldl (fun y c => y * x + c) 0 := by unfold evR; rw [List.foldl_map]
  rw [e, h, List.foldl_reverse]
  clear e h
  induction cs with
  | nil => rfl
  | cons c cs ih =>
    show (cs.foldr (fun c y => y * x + c) 0) * x + c = c + x * Chart.ev cs x
    rw [ih]
    grind

end Go.Proofs.YtgklcfipgdbbgaaGreatDoor

/- field.Eval. -/
namespace Go.Proofs.YtgklcfipgdbbgaaGreatDoor
open Go.RowKit Go.Shelf
attribute [local go_sem] Oper.semAt_some

theorem results_cell_tmp2 {P : Program} {fn : Func} {p u : Tmp} {ty : TypeId} (h : fn.results = #[.cell p ty, .tmp u]) (tmps : Array Value) (w : World) (g o : Nat) (v x : Value)
    (hp : tmps.getD p undef = .pointer (some ⟨g, o, none⟩)) (ha : ∀ w, (isAgg ty).run P w = .ok false w) (hc : w.cell? ⟨g, o, none⟩ = some v) (hu : tmps.getD u undef = x) :
    (results fn tmps).run P w = .ok (.tuple #[v, x]) w := by
  rw [results_cell_tmp h, hp, hu]
  simp [asAddr, loadVar, ha, hc, Result.andThen]

set_option maxRecDepth 100000 in
set_option maxHeartbeats 2000000 in
theorem eval_any (cs : List Chart.F) (x : Chart.F) (g off cap : Nat) (hm : cs.length ≤ 2147483647) (w : World) (hc : IntsAt w g off (nums cs)) (hg : g < w.heap.size) :
    Calls Tryz.prog 18 #[.slice (some ⟨g, off, none⟩) cs.length cap, fv x] w fun e w' => e = two ((Chart.ev cs x).val : Nat) 0 ∧ Below w.heap.size w w' := by
  refine (callsIn_wide (n := 6)).1 ?_
  refine callsIn_of_wp_marks Tryz.func18 rfl trivial ?_ rfl
  simp only [Tryz.ntmps18, List.size_toArray, List.length_cons, List.length_nil, Nat.reduceAdd, Nat.reduceSub, Array.replicate_succ, Array.replicate_zero, List.push_toArray, List.append_toArray, List.nil_append, List.cons_append]
  obtain ⟨W2, hW2⟩ : ∃ W2, (w.alloc (.cells #[fv x] 3)).alloc (.cells #[.int .i64 0] 3) = W2 := ⟨_, rfl⟩
  have s2 : W2.heap.size = w.heap.size + 1 + 1 := by rw [← hW2]; simp
  have C1 := outside_one (x.val : Int) W2
  rw [outB_nat x.isLt, s2] at C1
  obtain ⟨W3, hW3⟩ : ∃ W3, W2.alloc (.cells #[fv x] 3) = W3 := ⟨_, rfl⟩
  rw [hW3] at C1
  have s3 : W3.heap.size = w.heap.size + 1 + 1 + 1 := by rw [← hW3]; simp [s2]
  have hB3 : Below w.heap.size w W3 := by
    rw [← hW3, ← hW2]
    exact (((Below.refl _ w).alloc (Nat.le_refl _) _).alloc (by simp) _).alloc (by simp; omega) _
  have C2 := outside_any (nums cs) g off cap (by rw [nums_length]; exact hm) W3 (fun i hi => by rw [(bcell hB3).1 g _ hg]; exact hc i hi)
  rw [nums_length, outside_nums] at C2
  have C3 := backward_any (some ⟨g, off, none⟩) cs.length cap W3
  rw [s3] at C3
  obtain ⟨W0, hW0⟩ : ∃ W0, W3.alloc (.cells #[.slice (some ⟨g, off, none⟩) cs.length cap] 41) = W0 := ⟨_, rfl⟩
  rw [hW0] at C3
  have hs0 : W0.heap.size = w.heap.size + 4 := by rw [← hW0]; simp [s3]
  have hB0 : Below w.heap.size w W0 := by rw [← hW0]; exact hB3.alloc (by omega) _
  have cx : W0.cell? ⟨w.heap.size, 0, none⟩ = some (fv x) := by
    rw [← hW0, cell_alloc _ (by omega), ← hW3, cell_alloc _ (by omega), ← hW2, cell_alloc _ (by simp), cell_new]; rfl
  have s1 : (w.alloc (.cells #[fv x] 3)).heap.size = w.heap.size + 1 := by simp
  have cy : W0.cell? ⟨w.heap.size + 1, 0, none⟩ = some (fv 0) := by
    rw [← hW0, cell_alloc _ (by omega), ← hW3, cell_alloc _ (by omega), ← hW2, ← s1, cell_new]; rfl
  have fy : W0.frozen? ⟨w.heap.size + 1, 0, none⟩ = false := by
    rw [← hW0, frozen_alloc _ (by omega), ← hW3, frozen_alloc _ (by omega), ← hW2, ← s1, frozen_new]
  have cb : W0.cell? ⟨w.heap.size + 1 + 1 + 1, 0, none⟩ = some (.slice (some ⟨g, off, none⟩) cs.length cap) := by
    rw [← hW0, ← s3, cell_new]; rfl
  have hc0 : IntsAt W0 g off (nums cs) := fun i hi => by rw [(bcell hB0).1 g _ hg]; exact hc i hi
  replace C1 := Lib.hid C1
  replace C2 := Lib.hid C2
  replace C3 := Lib.hid C3
  have cx2 : W2.cell? ⟨w.heap.size, 0, none⟩ = some (fv x) := by rw [← hW2, cell_alloc _ (by simp), cell_new]; rfl
  gi_wp2_with fail
  refine ⟨trivial, (callsIn_wide.2 C1.out).mono ?_⟩
  rintro e w' ⟨rfl, rfl⟩
  gi_wp2_with fail
  refine ⟨trivial, (callsIn_wide.2 C2.out).mono ?_⟩
  rintro e w' ⟨rfl, rfl⟩
  gi_wp2_with fail
  refine ⟨trivial, (callsIn_wide.2 C3.out).mono ?_⟩
  rintro e w' ⟨rfl, rfl⟩
  gi_wp2_with fail
  clear hW2 hW3 hW0 cx2 s1 s2 s3 C1 C2 C3 hB3
  refine wpIn_rangeFunc_ownF rfl (by omega) (gf := 60) (lb := #[.pointer (some ⟨w.heap.size + 1 + 1 + 1, 0, none⟩)]) rfl trivial (enters_of Tryz.func60 (by kernel_rfl) rfl)
    (backward1_stops _ (by omega) (w.heap.size + 1 + 1 + 1) g off cap cs hm W0 cb hc0 (by omega) (by omega)) (fun h1 h2 => keep2_t h1 h2) (keep2_put (by omega) (by omega)) (Below.refl _ _) (fun _ => rfl)
    (fun pre W => EvI w x (evR x pre) W)
    (fun _ _ _ => False)
    (by rw [hs0]; exact evI_own w x _)
    (fun _ _ _ _ _ hs _ _ => hs)
    ⟨⟨cx, cy, fy, by omega⟩, hB0⟩
    (fun p => { tmps := #[.slice (some ⟨g, off, none⟩) cs.length cap, fv x, undef, .pointer (some ⟨w.heap.size, 0, none⟩), .pointer (some ⟨w.heap.size + 1, 0, none⟩), .int .i64 0, undef, fv p.2, fv x, .slice (some ⟨w.heap.size + 1 + 1, 0, none⟩) 1 1, .bool false, .bool false, .slice (some ⟨g, off, none⟩) cs.length cap, .bool false, .bool false, .slice (some ⟨g, off, none⟩) cs.length cap, .func (.func 60) #[] #[.pointer (some ⟨w.heap.size + 1 + 1 + 1, 0, none⟩)], .int .i64 (p.1 : Nat), fv p.2, undef, undef, undef, undef, undef, undef, undef], defers := [] }) ?assign ?body ?done ?stop
  case assign =>
    intro l x W K hK
    gi_wp2
    exact hK
  case body =>
    rintro l pre p W hI _
    have hsn := evR_snoc x pre p
    generalize evR x pre = y at *
    obtain ⟨j, c⟩ := p
    obtain ⟨⟨hcx, hcy, hfy, hsz⟩, hB⟩ := hI
    have CP : Calls Tryz.prog 38 #[fv y, fv x] W fun e w' => e = .returned (.int .i64 ((y * x).val : Nat)) ∧ Below W.heap.size W w' := product_any y.val x.val y.isLt x.isLt W
    obtain ⟨r, hr⟩ : ∃ r, r = (y * x).val := ⟨_, rfl⟩
    obtain ⟨d, hd⟩ : ∃ d, d = (y * x + c).val := ⟨_, rfl⟩
    have hd2 : d = (r + c.val) % Chart.Q := by rw [hd, hr]; rfl
    have hQ := Q_eq
    have hrl : r < Chart.Q := by rw [hr]; exact (y * x).isLt
    have hcl := c.isLt
    have hdl : d < Chart.Q := by rw [hd]; exact (y * x + c).isLt
    rw [← hr] at CP
    obtain ⟨k, hk⟩ : ∃ k, k = c.val := ⟨_, rfl⟩
    rw [← hk] at hd2 hcl
    obtain ⟨s, hs⟩ : ∃ s : Int, s = (r : Int) + (k : Int) := ⟨_, rfl⟩
    have e2 : IntKind.i64.wrap ((r : Int) + (c.val : Int)) = s := by rw [← hk, wrap_i64_small _ (by omega) (by omega), hs]
    have e3 : s.tmod 2305843009213688669 = (d : Int) := by rw [Int.tmod_eq_emod_of_nonneg (by omega), hs, hd2, hQ]; omega
    have e4 : IntKind.i64.wrap (d : Int) = (d : Int) := wrap_i64_small _ (by omega) (by omega)
    replace CP := Lib.hid CP
    have Hd := Lib.hid (hsn.trans (show y * x + c = y * x + c from rfl))
    have Hdv := Lib.hid hd
    have HB := Lib.hid hB
    clear hsn hd hd2 hQ hrl hcl hdl hs hr hB hk
    dsimp only
    gi_wp2_with fail
    refine ⟨trivial, CallsIn.mono (CallsIn.inRound l (callsIn_wide.2 CP.out)) ?_⟩
    rintro e W1 ⟨rfl, hB1⟩
    obtain ⟨bc1, bf1⟩ := bcell hB1
    have h1x : W1.cell? ⟨w.heap.size, 0, none⟩ = some (fv x) := (bc1 _ _ (by omega)).trans hcx
    have h1y : W1.cell? ⟨w.heap.size + 1, 0, none⟩ = some (fv y) := (bc1 _ _ (by omega)).trans hcy
    have h1f : W1.frozen? ⟨w.heap.size + 1, 0, none⟩ = false := (bf1 _ _ (by omega)).trans hfy
    have hs1 := hB1.size
    have HB1 := Lib.hid (HB.out.trans (hB1.mono (by omega)))
    have hk1 : Keep2 (w.heap.size + 1 + 1 + 1) g W W1 := keep2_below hB1 (by omega) (by omega)
    have ho1 : KeepsOthers W W1 := keepsOthers_below hB1
    have Hk := Lib.hid (And.intro hk1 ho1)
    clear bc1 bf1 hk1 ho1 hB1
    gi_wp2_with fail
    refine ⟨Hk.out.2.trans (KeepsOthers.setCell _ _ _), keep2_t Hk.out.1 (keep2_set (by omega) (by omega) _), ⟨?_, ?_, ?_, ?_⟩, below_setCell HB1.out (by omega) _ _⟩
    · rw [cell_set_other (by omega)]; exact h1x
    · rw [Hd.out, fv, ← Hdv.out]
      exact cell_set_same _ _ _ _ h1y
    · rw [frozen_set]; exact h1f
    · simp; omega
  case done =>
    rintro D ys W hD hys ⟨⟨hcx, hcy, hfy, hsz⟩, hB⟩ hK
    gi_wp2_with fail
    obtain ⟨W', hW'⟩ : ∃ W', W' = W.setCell ⟨w.heap.size + 1, 0, none⟩ (.int .i64 ((evR x ys).val : Int)) := ⟨_, rfl⟩
    rw [← hW']
    have hK' : W'.heap[D]? = some (.deferred (some [])) := by rw [hW']; exact (Below.heap_setCell _ _ _ _ (show D ≠ w.heap.size + 1 by omega)).trans hK
    have hy' : W'.cell? ⟨w.heap.size + 1, 0, none⟩ = some (.int .i64 ((evR x ys).val : Int)) := by rw [hW']; exact cell_set_same _ _ _ _ hcy
    have hy2 : (W'.putObj D (.deferred none)).cell? ⟨w.heap.size + 1, 0, none⟩ = some (.int .i64 ((evR x ys).val : Int)) := (World.cell?_of_block (a := ⟨w.heap.size + 1, 0, none⟩) (World.putObj_heap_other (fun e => by have e' : w.heap.size + 1 = D := e; omega))).trans hy'
    have hB' : Below w.heap.size w W' := by rw [hW']; exact below_setCell hB (Nat.le_succ _) _ _
    refine ⟨by simp, .inl ⟨_, _, rfl, run_takeDeferred hK', ?_⟩⟩
    refine ⟨_, results_cell_tmp2 rfl _ _ (w.heap.size + 1) 0 _ _ rfl (isAgg_int .i64 (by kernel_rfl)) hy2 rfl, ?_, hB'.trans (belowK_b (w := w) (Nat.le_refl _) W' D _ _ (by omega) hK' rfl rfl)⟩
    rw [evR_all x ys cs hys]
    rfl
  case stop =>
    rintro D c pre W _ _ h _
    exact h.elim
end Go.Proofs.YtgklcfipgdbbgaaGreatDoor

/- shamir.basis: what is 1 at one place and 0 at the other places, place by place. -/
namespace Go.Proofs.YtgklcfipgdbbgaaGreatDoor
open Go.RowKit Go.Shelf
attribute [local go_sem] Oper.semAt_some

/-- Three blocks stay as they are. -/
def Keep3 (a b c : Nat) (W W' : World) : Prop := W'.heap[a]? = W.heap[a]? ∧ W'.heap[b]? = W.heap[b]? ∧ W'.heap[c]? = W.heap[c]?
theorem keep3_t {a b c : Nat} {X Y Z : World} (h : Keep3 a b c X Y) (k : Keep3 a b c Y Z) : Keep3 a b c X Z := ⟨k.1.trans h.1, k.2.1.trans h.2.1, k.2.2.trans h.2.2⟩
theorem keep3_refl (a b c : Nat) (W : World) : Keep3 a b c W W := ⟨rfl, rfl, rfl⟩
theorem keep3_put {a b c n : Nat} (ha : a < n) (hb : b < n) (hc : c < n) (W : World) (l : Nat) (o o' : Obj) (hl : n ≤ l) (_ : W.heap[l]? = some o) (_ : o.isCells = false) (_ : o.isWalk = false) : Keep3 a b c W (W.putObj l o') :=
  ⟨World.putObj_heap_other (by omega), World.putObj_heap_other (by omega), World.putObj_heap_other (by omega)⟩
theorem keep3_below {a b c : Nat} {W W' : World} (hb : Below W.heap.size W W') (h1 : a < W.heap.size) (h2 : b < W.heap.size) (h3 : c < W.heap.size) : Keep3 a b c W W' := ⟨hb.block a h1, hb.block b h2, hb.block c h3⟩
theorem keep3_set {a b c d : Nat} {W : World} (h1 : a ≠ d) (h2 : b ≠ d) (h3 : c ≠ d) (v : Value) : Keep3 a b c W (W.setCell ⟨d, 0, none⟩ v) := ⟨Below.heap_setCell _ _ _ _ h1, Below.heap_setCell _ _ _ _ h2, Below.heap_setCell _ _ _ _ h3⟩
theorem keep_lt {a : Nat} {W W' : World} (h : W'.heap[a]? = W.heap[a]?) (ha : a < W.heap.size) : a < W'.heap.size := by
  rw [Array.getElem?_eq_getElem ha] at h
  exact (Array.getElem?_eq_some_iff.1 h).1
theorem abides_below {β : Type} {B : Nat} {J : β → World → Prop} (h : AbidesFrom B J) {s : β} {W W' : World} (hs : J s W) (hb : Below W.heap.size W W') : J s W' :=
  h s W W' none hs ⟨hb.os, hb.tape, hb.output, hb.size, fun k hk _ => hb.block k hk⟩ (fun r e => by cases e)

/-- The parts of the product up to a place. -/
abbrev upX (ps : List Chart.F) (x : Chart.F) (i k : Nat) : Chart.F := Chart.upTo (fun b => x - b) ps i k

set_option maxRecDepth 100000 in
set_option maxHeartbeats 2000000 in
theorem basis1_in (n : Nat) (hn : 1 ≤ n) (l A B g cap : Nat) (ps : List Chart.F) (x : Chart.F) (hm : ps.length ≤ 64) (J Jx : List (Fin ps.length) → World → Prop) (W : World) (hJ : AbidesFrom W.heap.size J)
    (hY : ∀ pre (i : Fin ps.length) W, J pre W → pre.length < ps.length → YieldAt Fence.wide (n - 1) Tryz.prog l #[.int .i64 (i.val : Nat), fv (Chart.basis Chart.inv ps i.val x)] W fun e W' =>
      (e = .returned (.bool true) ∧ J (pre ++ [i]) W' ∧ Keep3 A B g W W') ∨ (e = .returned (.bool false) ∧ Jx (pre ++ [i]) W'))
    (hA : W.cell? ⟨A, 0, none⟩ = some (.slice (some ⟨g, 0, none⟩) ps.length cap)) (hB : W.cell? ⟨B, 0, none⟩ = some (fv x)) (hc : IntsAt W g 0 (nums ps)) (hlg : g < W.heap.size) (h0 : J [] W) :
    CallsIn Fence.wide n Tryz.prog 66 #[.func (.yield l) #[] #[], .pointer (some ⟨A, 0, none⟩), .pointer (some ⟨B, 0, none⟩)] W fun e W' => (∃ v, e = .returned v) ∧
      ((∃ ys, ys = List.finRange ps.length ∧ J ys W') ∨ (∃ pre, True ∧ Jx pre W')) := by
  refine callsIn_of_wp Tryz.func66 rfl trivial ?_ rfl
  simp only [Tryz.ntmps66, List.size_toArray, List.length_cons, List.length_nil, Nat.reduceAdd, Nat.reduceSub, Array.replicate_succ, Array.replicate_zero, List.push_toArray, List.append_toArray, List.nil_append, List.cons_append]
  have hlA := cell_lt hA
  have hlB := cell_lt hB
  have hsz : ∀ i, i < ps.length → ∀ W', Keep3 A B g W W' → W'.cell? ⟨g, i, none⟩ = some (fv (ps.getD i 0)) := by
    intro i hi W' hK
    rw [World.cell?_of_block (a := ⟨g, i, none⟩) hK.2.2]
    have := hc i (by rw [nums_length]; exact hi)
    rw [nums_at, Nat.zero_add] at this
    rw [this, List.getD_eq_getElem?_getD, List.getElem?_eq_getElem hi, Option.getD_some]
  have Hlt := Lib.hid (And.intro hlA (And.intro hlB hlg))
  obtain ⟨L, hL⟩ : ∃ L, L = ps.length := ⟨_, rfl⟩
  have HL := Lib.hid hL
  have Hsz := Lib.hid hsz
  have HJ := Lib.hid hJ
  rw [← hL] at hm hA
  clear hc hsz hJ hlA hlB hlg hL
  gi_wp2_with fail
  gi_loopw [20] (fun i wr => ∃ (pre : List (Fin ps.length)) (t : Nat), t ≤ L ∧ i = .int .i64 t ∧ Hid (pre = (List.finRange ps.length).take t) ∧ J pre wr ∧ Hid (Keep3 A B g W wr))
    (fun i _ => L - (intOf i).toNat)
  case atStart =>
    exact ⟨[], 0, Nat.zero_le _, rfl, Lib.hid (by simp), h0, Lib.hid (keep3_refl _ _ _ _)⟩
  case round =>
    obtain ⟨pre, t, ht, rfl, hpre, hJ, hK⟩ := hrel
    have hA' : wr.cell? ⟨A, 0, none⟩ = some (.slice (some ⟨g, 0, none⟩) L cap) := (World.cell?_of_block (a := ⟨A, 0, none⟩) hK.out.1).trans hA
    by_cases hlt : t < L
    · have hlt' : t < ps.length := by have := HL.out; omega
      have hcell := Hsz.out t hlt' wr hK.out
      obtain ⟨a, ha⟩ : ∃ a, a = ps.getD t 0 := ⟨_, rfl⟩
      rw [← ha] at hcell
      have Ha := Lib.hid ha
      clear ha
      gi_wp2_with fail
      gi_loopw [6, 7, 27] (fun up down k wq => ∃ q : Nat, q ≤ L ∧ k = .int .i64 q ∧ up = fv (Chart.upTo (fun b => x - b) ps t q) ∧ down = fv (Chart.upTo (fun b => a - b) ps t q) ∧ J pre wq ∧ Hid (Keep3 A B g W wq))
        (fun _ _ k _ => L - (intOf k).toNat)
      case atStart =>
        refine ⟨0, Nat.zero_le _, rfl, ?_, ?_, hJ, hK⟩
        · rw [Chart.upTo_zero]; rfl
        · rw [Chart.upTo_zero]; rfl
      case round =>
        obtain ⟨q, hq, rfl, rfl, rfl, hJq, hKq⟩ := hrel
        by_cases hql : q < L
        · have hql' : q < ps.length := by have := HL.out; omega
          have hcq := Hsz.out q hql' wr hKq.out
          obtain ⟨b, hb⟩ : ∃ b, b = ps.getD q 0 := ⟨_, rfl⟩
          rw [← hb] at hcq
          have hbq : ps[q] = b := by rw [hb, List.getD_eq_getElem?_getD, List.getElem?_eq_getElem hql', Option.getD_some]
          by_cases he : q = t
          · subst he
            clear hb hbq
            gi_wp2_with fail
            go_roundw
            case rel => exact ⟨q + 1, by omega, by go_num, by rw [Chart.upTo_skip], by rw [Chart.upTo_skip], hJq, hKq⟩
            case measure => simp [intOf] <;> omega
          · have hne : ((q : Int) == (t : Int)) = false := beq_eq_false_iff_ne.2 (by omega)
            have hBq : wr.cell? ⟨B, 0, none⟩ = some (fv x) := (World.cell?_of_block (a := ⟨B, 0, none⟩) hKq.out.2.1).trans hB
            have hs1 := Chart.upTo_step (fun b => x - b) ps hql' he
            have hs2 := Chart.upTo_step (fun b => a - b) ps hql' he
            rw [hbq] at hs1 hs2
            generalize Chart.upTo (fun b => x - b) ps t q = u at *
            generalize Chart.upTo (fun b => a - b) ps t q = d at *
            have Hs := Lib.hid (And.intro hs1 hs2)
            have C1 := Lib.hid (fsubF x b wr)
            have C2 := Lib.hid (fsubF a b)
            have C3 := Lib.hid (fmulF u (x - b))
            have C4 := Lib.hid (fmulF d (a - b))
            obtain ⟨p1, hp1⟩ : ∃ p1, p1 = x - b := ⟨_, rfl⟩
            obtain ⟨p2, hp2⟩ : ∃ p2, p2 = a - b := ⟨_, rfl⟩
            obtain ⟨p3, hp3⟩ : ∃ p3, p3 = u * (x - b) := ⟨_, rfl⟩
            obtain ⟨p4, hp4⟩ : ∃ p4, p4 = d * (a - b) := ⟨_, rfl⟩
            rw [← hp3, ← hp1] at C3
            rw [← hp4, ← hp2] at C4
            rw [← hp1] at C1
            rw [← hp2] at C2
            have Hp := Lib.hid (And.intro hp3 hp4)
            clear hb hbq hs1 hs2 hp1 hp2 hp3 hp4 he
            gi_wp2_with fail
            refine ⟨trivial, CallsIn.mono (callsIn_wide.2 C1.out) ?_⟩
            rintro e w1 ⟨rfl, hB1⟩
            gi_wp2_with fail
            refine ⟨trivial, CallsIn.mono (callsIn_wide.2 (C2.out w1)) ?_⟩
            rintro e w2 ⟨rfl, hB2⟩
            gi_wp2_with fail
            refine ⟨trivial, CallsIn.mono (callsIn_wide.2 (C3.out w2)) ?_⟩
            rintro e w3 ⟨rfl, hB3⟩
            gi_wp2_with fail
            refine ⟨trivial, CallsIn.mono (callsIn_wide.2 (C4.out w3)) ?_⟩
            rintro e w4 ⟨rfl, hB4⟩
            have hB12 := hB1.trans (hB2.mono hB1.size)
            have hB13 := hB12.trans (hB3.mono hB12.size)
            have hB14 := hB13.trans (hB4.mono hB13.size)
            have hJ4 := abides_below HJ.out hJq hB14
            have hK4 : Hid (Keep3 A B g W w4) := by
              have h3 := Hlt.out
              exact Lib.hid (keep3_t hKq.out (keep3_below hB14 (keep_lt hKq.out.1 h3.1) (keep_lt hKq.out.2.1 h3.2.1) (keep_lt hKq.out.2.2 h3.2.2)))
            clear hB1 hB2 hB3 hB4 hB12 hB13 hB14
            gi_wp2_with fail
            go_roundw
            case rel => exact ⟨q + 1, by omega, by go_num, by rw [Hs.out.1, Hp.out.1], by rw [Hs.out.2, Hp.out.2], hJ4, hK4⟩
            case measure => simp [intOf] <;> omega
        · obtain rfl : q = L := by omega
          have hbs := Chart.basis_upTo ps t x hlt'
          have hat : ps[t] = a := by rw [Ha.out, List.getD_eq_getElem?_getD, List.getElem?_eq_getElem hlt', Option.getD_some]
          rw [hat, ← HL.out] at hbs
          generalize Chart.upTo (fun b => x - b) ps t q = u at *
          generalize Chart.upTo (fun b => a - b) ps t q = d at *
          have hpl : pre.length = t := by rw [hpre.out, List.length_take, List.length_finRange]; omega
          obtain ⟨pi, hpi⟩ : ∃ pi : Fin ps.length, pi = ⟨t, hlt'⟩ := ⟨_, rfl⟩
          have hpre2 : pre ++ [pi] = (List.finRange ps.length).take (t + 1) := by
            rw [List.take_succ_eq_append_getElem (by rw [List.length_finRange]; exact hlt'), hpre.out, hpi, List.getElem_finRange]
            rfl
          have Hpre2 := Lib.hid hpre2
          have C1 := Lib.hid (finvF d wr)
          have C2 := Lib.hid (fmulF u (Chart.inv d))
          obtain ⟨v1, hv1⟩ : ∃ v1, v1 = Chart.inv d := ⟨_, rfl⟩
          obtain ⟨v2, hv2⟩ : ∃ v2, v2 = u * Chart.inv d := ⟨_, rfl⟩
          rw [← hv2, ← hv1] at C2
          rw [← hv1] at C1
          rw [← hv2] at hbs
          have hYp := hY pre pi
          have hpv : pi.val = t := by rw [hpi]
          rw [hpv, hbs] at hYp
          have HY := Lib.hid hYp
          clear hbs hat hv1 hv2 hpi hpre2 hYp hpv
          gi_wp2_with fail
          refine ⟨trivial, CallsIn.mono (callsIn_wide.2 C1.out) ?_⟩
          rintro e w1 ⟨⟨z, rfl⟩, hB1⟩
          gi_wp2_with fail
          refine ⟨trivial, CallsIn.mono (callsIn_wide.2 (C2.out w1)) ?_⟩
          rintro e w2 ⟨rfl, hB2⟩
          have hB12 := hB1.trans (hB2.mono hB1.size)
          have hJ2 := abides_below HJ.out hJq hB12
          have hK2 : Hid (Keep3 A B g W w2) := by
            have h3 := Hlt.out
            exact Lib.hid (keep3_t hKq.out (keep3_below hB12 (keep_lt hKq.out.1 h3.1) (keep_lt hKq.out.2.1 h3.2.1) (keep_lt hKq.out.2.2 h3.2.2)))
          clear hB1 hB2 hB12
          obtain ⟨fn, tmps, assign, body, hy, hR⟩ := HY.out w2 hJ2 (by rw [hpl]; exact hlt')
          gi_wp2_with fail
          refine hR.mono ?_
          rintro e W3 (⟨rfl, hJ3, hk3⟩ | ⟨rfl, hJx3⟩)
          · have hK3 : Hid (Keep3 A B g W W3) := Lib.hid (keep3_t hK2.out hk3)
            gi_wp2_with fail
            go_roundw
            case rel => exact ⟨pre ++ [pi], t + 1, by omega, by go_num, Hpre2, hJ3, hK3⟩
            case measure => simp [intOf] <;> omega
          · gi_wp2_with fail
            refine bodyPost_ret (results_none rfl _ _ _) rfl ?_
            exact ⟨⟨_, rfl⟩, .inr ⟨pre ++ [pi], trivial, hJx3⟩⟩
    · obtain rfl : t = L := by omega
      gi_wp2_with fail
      go_end0
      exact ⟨⟨_, rfl⟩, .inl ⟨pre, by rw [hpre.out, List.take_of_length_le (by rw [List.length_finRange]; have := HL.out; omega)], hJ⟩⟩

theorem basis1_stops (n : Nat) (hn : 1 ≤ n) (A B g cap : Nat) (ps : List Chart.F) (x : Chart.F) (hm : ps.length ≤ 64) (w : World) (hA : w.cell? ⟨A, 0, none⟩ = some (.slice (some ⟨g, 0, none⟩) ps.length cap)) (hB : w.cell? ⟨B, 0, none⟩ = some (fv x)) (hc : IntsAt w g 0 (nums ps)) (hlg : g < w.heap.size) :
    SeqStopsK Fence.wide n Tryz.prog 66 #[.pointer (some ⟨A, 0, none⟩), .pointer (some ⟨B, 0, none⟩)] (fun i : Fin ps.length => #[Value.int .i64 (i.val : Nat), fv (Chart.basis Chart.inv ps i.val x)]) (Keep3 A B g) (fun ys => ys = List.finRange ps.length) (fun _ => True) ps.length w :=
  fun l J Jx W hW hJ _ hY h0 => basis1_in n hn l A B g cap ps x hm J Jx W hJ (fun pre x W1 hJ hlen => hY pre x W1 hJ hlen) ((hW.cell (p := ⟨A, 0, none⟩) (cell_lt hA)).trans hA) ((hW.cell (p := ⟨B, 0, none⟩) (cell_lt hB)).trans hB) (fun i hi => by rw [(bcell hW).1 g _ hlg]; exact hc i hi) (Nat.lt_of_lt_of_le hlg hW.size) h0

theorem basis_any (a : Option Addr) (n cap : Nat) (x : Int) (w : World) :
    Calls Tryz.prog 44 #[.slice a n cap, .int .i64 x] w fun e w' => e = .returned (.func (.func 66) #[] #[.pointer (some ⟨w.heap.size, 0, none⟩), .pointer (some ⟨w.heap.size + 1, 0, none⟩)]) ∧ (w.alloc (.cells #[.slice a n cap] 41)).alloc (.cells #[.int .i64 x] 3) = w' := by
  go_enter Tryz.func44, Tryz.ntmps44
  go_wp2_with fail
  go_ret
  exact ⟨rfl, rfl⟩
end Go.Proofs.YtgklcfipgdbbgaaGreatDoor
