/- Powers by the bits of the exponent, the highest one first; in plain Lean. -/
import Derived.RangeFuncNested
import Derived.RangeFuncFrom
import Derived.RangeFuncBound
import Derived.RangeFuncCalls
import Derived.RangeFuncLeaves
import Derived.Shelf.Abstract
import Derived.Shelf.RegionOpen
import Derived.OwnWalkIn
import Derived.TacticsInMore
import Derived.LoopNIn
import Derived.LoopIn
import Derived.Laws.EntriesVeiled
import Derived.Test.YtejjincnghmbbaaGreatDoorM8
import Derived.Test.YtejjincnghmbbaaGreatDoorM9
namespace Chart

/-- The lowest n bits of a number, the highest one first. -/
def bitsOf (k : Nat) : Nat → List Bool
  | 0 => []
  | n + 1 => k.testBit n :: bitsOf k n

theorem bitsOf_length (k n : Nat) : (bitsOf k n).length = n := by
  induction n with
  | zero => rfl
  | succ n ih => simp [bitsOf, ih]

def pstep (m a c : Nat) (b : Bool) : Nat := if b then (c * c % m) * a % m else c * c % m
def pfold (m a : Nat) (l : List Bool) : Nat := l.foldl (pstep m a) 1

theorem pfold_nil (m a : Nat) : pfold m a [] = 1 := rfl
theorem pfold_snoc (m a : Nat) (l : List Bool) (b : Bool) : pfold m a (l ++ [b]) = pstep m a (pfold m a l) b := by simp [pfold]

theorem mod_two_pow_succ (k n : Nat) : k % 2 ^ (n + 1) = (if k.testBit n then 2 ^ n else 0) + k % 2 ^ n := by
  rw [Nat.pow_succ, Nat.mod_mul]
  have : k.testBit n = decide (k / 2 ^ n % 2 = 1) := by rw [Nat.testBit_eq_decide_div_mod_eq]
  rw [this]
  by_cases h : k / 2 ^ n % 2 = 1
  · simp [h]; omega
  · have h0 : k / 2 ^ n % 2 = 0 := by omega
    simp [h0]

theorem foldl_bits (m a k : Nat) : ∀ (n c : Nat), ((bitsOf k n).foldl (pstep m a) c) % m = c ^ (2 ^ n) * a ^ (k % 2 ^ n) % m
  | 0, c => by simp [bitsOf, Nat.mod_one]
  | n + 1, c => by
    simp only [bitsOf, List.foldl_cons]
    rw [foldl_bits m a k n]
    have hsq : (c * c % m) ^ 2 ^ n % m = c ^ 2 ^ (n + 1) % m := by
      rw [← Nat.pow_mod, ← Nat.pow_two, ← Nat.pow_mul, Nat.pow_succ, Nat.mul_comm 2]
    rw [mod_two_pow_succ]
    unfold pstep
    cases k.testBit n with
    | false =>
      simp only [Bool.false_eq_true, if_false, Nat.zero_add]
      rw [Nat.mul_mod, hsq, ← Nat.mul_mod]
    | true =>
      simp only [if_true]
      have h2 : (c * c % m * a % m) ^ 2 ^ n % m = c ^ 2 ^ (n + 1) * a ^ 2 ^ n % m := by
        rw [← Nat.pow_mod, Nat.mul_pow, Nat.mul_mod, hsq, ← Nat.mul_mod]
      rw [Nat.mul_mod, h2, ← Nat.mul_mod, Nat.mul_assoc, ← Nat.pow_add]

theorem pfold_lt (m a : Nat) (hm : 1 < m) (l : List Bool) : pfold m a l < m := by
  unfold pfold
  generalize hc : 1 = c
  have h : c < m := by omega
  clear hc
  induction l generalizing c with
  | nil => exact h
  | cons b l ih =>
    simp only [List.foldl_cons]
    apply ih
    unfold pstep
    split <;> exact Nat.mod_lt _ (by omega)

theorem pfold_bits (m a k n : Nat) (hm : 1 < m) (h : k < 2 ^ n) : pfold m a (bitsOf k n) = a ^ k % m := by
  have h1 := foldl_bits m a k n 1
  rw [Nat.one_pow, Nat.one_mul, Nat.mod_eq_of_lt h] at h1
  rw [← h1]
  exact (Nat.mod_eq_of_lt (pfold_lt m a hm _)).symm

/-- From the other end: c * a ^ k does not change while a bit of k is taken off. -/
theorem low_bit (m c a k : Nat) : (if k % 2 = 1 then c * a % m else c) * (a * a % m) ^ (k / 2) % m = c * a ^ k % m := by
  have e : (a * a % m) ^ (k / 2) % m = a ^ (2 * (k / 2)) % m := by rw [← Nat.pow_mod, ← Nat.pow_two, ← Nat.pow_mul]
  by_cases h : k % 2 = 1
  · rw [if_pos h, Nat.mul_mod, Nat.mod_mod, e, ← Nat.mul_mod, Nat.mul_assoc, ← Nat.pow_succ']
    congr 3
    omega
  · rw [if_neg h, Nat.mul_mod, e, ← Nat.mul_mod]
    congr 3
    omega

end Chart

/- field.binary (an iterator over bits), field.power, Inv, Pow. -/
namespace Go.Proofs.YtejjincnghmbbaaGreatDoor
open Go.RowKit Go.Shelf
attribute [local go_sem] Oper.semAt_some

theorem bit_of_i64 (k j : Nat) (hk : k < 9223372036854775808) : (bits BinOp.and IntKind.i64 ((k : Int) / 2 ^ j) 1 == 1) = k.testBit j := by
  have e : (k : Int) / 2 ^ j = ((k / 2 ^ j : Nat) : Int) := by simp
  have hle := Nat.div_le_self k (2 ^ j)
  have h : bits BinOp.and IntKind.i64 ((k / 2 ^ j : Nat) : Int) 1 = ((k / 2 ^ j % 2 : Nat) : Int) := by
    show IntKind.i64.wrap ((BitVec.ofInt 64 ((k / 2 ^ j : Nat) : Int) &&& BitVec.ofInt 64 1).toNat : Int) = _
    have h1 : (BitVec.ofInt 64 1).toNat = 1 := by decide
    have h2 : (BitVec.ofInt 64 ((k / 2 ^ j : Nat) : Int)).toNat = k / 2 ^ j := by
      rw [BitVec.ofInt_natCast, BitVec.toNat_ofNat]; exact Nat.mod_eq_of_lt (by omega)
    rw [BitVec.toNat_and, h1, h2, Nat.and_one_is_mod]
    exact wrap_i64_small _ (by omega) (by omega)
  rw [e, h, Nat.testBit_eq_decide_div_mod_eq]
  by_cases hb : k / 2 ^ j % 2 = 1
  · rw [hb]; rfl
  · have h0 : k / 2 ^ j % 2 = 0 := by omega
    rw [h0]; rfl

set_option maxRecDepth 100000 in
set_option maxHeartbeats 1000000 in
theorem binary1_in (n : Nat) (hn : 1 ≤ n) (l Bn k : Nat) (hk : k < 9223372036854775808) (J Jx : List Bool → World → Prop)
    (hY : ∀ pre x W, J pre W → pre.length < Lib.bitLen k → YieldAt Fence.wide (n - 1) Tryz.prog l #[.bool x] W fun e W' =>
      (e = .returned (.bool true) ∧ J (pre ++ [x]) W' ∧ KeepsCell Bn W W') ∨ (e = .returned (.bool false) ∧ Jx (pre ++ [x]) W'))
    (W : World) (hBn : W.cell? ⟨Bn, 0, none⟩ = some (.int .i64 k)) (h0 : J [] W) :
    CallsIn Fence.wide n Tryz.prog 94 #[.func (.yield l) #[] #[], .pointer (some ⟨Bn, 0, none⟩)] W fun e W' => (∃ v, e = .returned v) ∧
      ((∃ ys, ys = Chart.bitsOf k (Lib.bitLen k) ∧ J ys W') ∨ (∃ pre, pre <+: Chart.bitsOf k (Lib.bitLen k) ∧ Jx pre W')) := by
  refine callsIn_of_wp Tryz.func94 rfl trivial ?_ rfl
  simp only [Tryz.ntmps94, List.size_toArray, List.length_cons, List.length_nil, Nat.reduceAdd, Nat.reduceSub, Array.replicate_succ, Array.replicate_zero, List.push_toArray, List.append_toArray, List.nil_append, List.cons_append]
  have hl := bitLen_le k (by omega)
  have e0 : IntKind.u64.wrap (k : Int) = (k : Int) := wrap_small k (by omega)
  gi_wp2_with fail
  refine ⟨trivial, (callsIn_wide.2 (len_any (k : Int) (by omega) (by omega) W)).mono ?_⟩
  rintro e w' ⟨rfl, rfl⟩
  rw [Int.toNat_natCast]
  have hlen := Chart.bitsOf_length k (Lib.bitLen k)
  generalize hL : Lib.bitLen k = L at *
  have HL := Lib.hid hL; clear hL
  have Hlen := Lib.hid hlen; clear hlen
  gi_wp2_with fail
  gi_loopw [3] (fun i wr => ∃ (pre : List Bool) (j : Nat), j ≤ L ∧ i = .int .i64 ((j : Int) - 1) ∧ Hid (Chart.bitsOf k L = pre ++ Chart.bitsOf k j) ∧ J pre wr ∧ wr.cell? ⟨Bn, 0, none⟩ = some (.int .i64 k))
    (fun i _ => (intOf i + 1).toNat)
  case atStart =>
    exact ⟨[], L, Nat.le_refl _, rfl, Lib.hid rfl, h0, hBn⟩
  case round =>
    obtain ⟨pre, j, hj, rfl, hx, hJ, hB⟩ := hrel
    cases j with
    | zero =>
      gi_wp2
      go_end0
      exact ⟨⟨_, rfl⟩, .inl ⟨pre, by rw [HL.out, hx.out]; simp [Chart.bitsOf], hJ⟩⟩
    | succ j =>
      have hpl : pre.length < L := by
        have := congrArg List.length hx.out
        rw [Hlen.out, List.length_append, Chart.bitsOf_length] at this
        omega
      have hbit := bit_of_i64 k j hk
      have hpre : Chart.bitsOf k L = (pre ++ [k.testBit j]) ++ Chart.bitsOf k j := by rw [hx.out]; simp [Chart.bitsOf]
      generalize k.testBit j = x at *
      have Hpre := Lib.hid hpre; clear hpre hx
      obtain ⟨fn, tmps, assign, body, hy, hR⟩ := hY pre x wr hJ hpl
      gi_wp2_with fail
      refine hR.mono ?_
      rintro e W3 (⟨rfl, hJ3, hk3⟩ | ⟨rfl, hJx3⟩)
      · have hB3 : W3.cell? ⟨Bn, 0, none⟩ = some (.int .i64 k) := hk3.trans hB
        gi_wp2
        go_roundw
        case rel => exact ⟨pre ++ [x], j, by omega, by first | rfl | (congr 1; omega), Hpre, hJ3, hB3⟩
        case measure => simp [intOf] <;> omega
      · gi_wp2
        refine bodyPost_ret (results_none rfl _ _ _) rfl ?_
        exact ⟨⟨_, rfl⟩, .inr ⟨pre ++ [x], ⟨Chart.bitsOf k j, by rw [HL.out]; exact Hpre.out.symm⟩, hJx3⟩⟩

theorem binary1_stops (n : Nat) (hn : 1 ≤ n) (Bn k : Nat) (hk : k < 9223372036854775808) (w : World) (hlt : Bn < w.heap.size) (hBn : w.cell? ⟨Bn, 0, none⟩ = some (.int .i64 k)) :
    SeqStopsK Fence.wide n Tryz.prog 94 #[.pointer (some ⟨Bn, 0, none⟩)] (fun x : Bool => #[Value.bool x]) (KeepsCell Bn) (fun xs => xs = Chart.bitsOf k (Lib.bitLen k)) (fun pre => pre <+: Chart.bitsOf k (Lib.bitLen k)) (Lib.bitLen k) w :=
  fun l J Jx W hW _ _ hY h0 => binary1_in n hn l Bn k hk J Jx (fun pre x W1 hJ hlen => hY pre x W1 hJ hlen) W ((hW.cell (p := ⟨Bn, 0, none⟩) hlt).trans hBn) h0

theorem binary_any (k : Int) (w : World) :
    Calls Tryz.prog 76 #[.int .i64 k] w fun e w' => e = .returned (.func (.func 94) #[] #[.pointer (some ⟨w.heap.size, 0, none⟩)]) ∧ w.alloc (.cells #[.int .i64 k] 3) = w' := by
  go_enter Tryz.func76, Tryz.ntmps76
  go_wp2
  go_ret
  exact ⟨rfl, rfl⟩

/-- The closure that multiplies what it has captured. -/
def Times (B c : Nat) (w : World) (e : Ending) (w' : World) : Prop := e = .returned (.tuple #[]) ∧ ∃ w1, Below w.heap.size w w1 ∧ w1.setCell ⟨B, 0, none⟩ (.int .i64 (c : Int)) = w'

theorem ftimes_any (c b B : Nat) (hc : c < Chart.Q) (hb : b < Chart.Q) (w : World) (hcell : w.cell? ⟨B, 0, none⟩ = some (.int .i64 c)) (hfr : w.frozen? ⟨B, 0, none⟩ = false) :
    Calls Tryz.prog 75 #[.int .i64 b, .pointer (some ⟨B, 0, none⟩)] w (Times B (c * b % Chart.Q) w) := by
  have hlt := cell_lt hcell
  have C1 := Lib.hid (product_any c b hc hb w)
  generalize c * b % Chart.Q = r at *
  go_enter Tryz.func75, Tryz.ntmps75
  go_wp2_with fail
  refine C1.out.mono ?_
  rintro e w1 ⟨rfl, hb1⟩
  have h1c : w1.cell? ⟨B, 0, none⟩ = some (.int .i64 c) := ((bcell hb1).1 _ _ hlt).trans hcell
  have h1f : w1.frozen? ⟨B, 0, none⟩ = false := ((bcell hb1).2 _ _ hlt).trans hfr
  go_wp2_with fail
  go_end0
  exact ⟨rfl, w1, hb1, rfl⟩

/-- What a round of the power knows of its memory. -/
def PowI (w : World) (a c : Nat) (W : World) : Prop :=
  (W.cell? ⟨w.heap.size, 0, none⟩ = some (.int .i64 (a : Int)) ∧ W.cell? ⟨w.heap.size + 1, 0, none⟩ = some (.int .i64 (c : Int)) ∧ W.frozen? ⟨w.heap.size + 1, 0, none⟩ = false ∧
    W.cell? ⟨w.heap.size + 1 + 1, 0, none⟩ = some (.func (.func 75) #[] #[.pointer (some ⟨w.heap.size + 1, 0, none⟩)]) ∧ w.heap.size + 4 ≤ W.heap.size) ∧ Below w.heap.size w W

theorem powI_own (w : World) (a : Nat) (f : List Bool → Nat) : OwnFrom (w.heap.size + 4) (fun pre W => PowI w a (f pre) W) :=
  OwnFrom.and (Own.from (fun s A B row hs hg hr => ⟨cell_kept hs.1 hg hr, cell_kept hs.2.1 hg hr, (frozen_kept hs.2.1 hg hr).trans hs.2.2.1, cell_kept hs.2.2.2.1 hg hr, Nat.le_trans hs.2.2.2.2 hg.size⟩) _) (ownFrom_below (Nat.le_refl _) (by omega))

/-- A call of the closure. -/
theorem powI_times {w W W' : World} {a c d : Nat} {e : Ending} (h : PowI w a c W) (ht : Times (w.heap.size + 1) d W e W') :
    PowI w a d W' ∧ KeepsOthers W W' ∧ KeepsCell (w.heap.size + 1 + 1 + 1) W W' := by
  obtain ⟨⟨h1, h2, h3, h4, h5⟩, hB⟩ := h
  obtain ⟨_, w1, hb1, rfl⟩ := ht
  obtain ⟨bc, bf⟩ := bcell hb1
  have hs := hb1.size
  refine ⟨⟨⟨?_, ?_, ?_, ?_, ?_⟩, ?_⟩, ?_, ?_⟩
  · rw [cell_set_other (by omega), bc _ _ (by omega)]; exact h1
  · exact cell_set_same _ _ _ _ ((bc _ _ (by omega)).trans h2)
  · rw [frozen_set, bf _ _ (by omega)]; exact h3
  · rw [cell_set_other (by omega), bc _ _ (by omega)]; exact h4
  · simp; omega
  · exact below_setCell (hB.trans (hb1.mono (by omega))) (by omega) _ _
  · exact (keepsOthers_below hb1).trans (KeepsOthers.setCell _ _ _)
  · exact keepsCell_t (keepsCell_below hb1 (by omega)) (keepsCell_set (by omega) _)

set_option maxRecDepth 100000 in
set_option maxHeartbeats 2000000 in
theorem fpower_any (a k : Nat) (ha : a < Chart.Q) (hk : k < 9223372036854775808) (w : World) :
    Calls Tryz.prog 55 #[.int .i64 a, .int .i64 k] w fun e w' => e = .returned (.int .i64 ((a ^ k % Chart.Q : Nat) : Int)) ∧ Below w.heap.size w w' := by
  refine (callsIn_wide (n := 6)).1 ?_
  refine callsIn_of_wp_marks Tryz.func55 rfl trivial ?_ rfl
  simp only [Tryz.ntmps55, List.size_toArray, List.length_cons, List.length_nil, Nat.reduceAdd, Nat.reduceSub, Array.replicate_succ, Array.replicate_zero, List.push_toArray, List.append_toArray, List.nil_append, List.cons_append]
  gi_wp2_with fail
  refine ⟨trivial, (callsIn_wide.2 (binary_any (k : Int) _)).mono ?_⟩
  rintro e w' ⟨rfl, rfl⟩
  gi_wp2_with fail
  obtain ⟨W1, hW1⟩ : ∃ W1, w.alloc (.cells #[.int .i64 (a : Int)] 3) = W1 := ⟨_, rfl⟩
  obtain ⟨W2, hW2⟩ : ∃ W2, W1.alloc (.cells #[.int .i64 1] 3) = W2 := ⟨_, rfl⟩
  obtain ⟨W3, hW3⟩ : ∃ W3, W2.alloc (.cells #[.func (.func 75) #[] #[.pointer (some ⟨w.heap.size + 1, 0, none⟩)]] 95) = W3 := ⟨_, rfl⟩
  obtain ⟨W0, hW0⟩ : ∃ W0, W3.alloc (.cells #[.int .i64 (k : Int)] 3) = W0 := ⟨_, rfl⟩
  rw [hW1, hW2, hW3, hW0]
  have s1 : W1.heap.size = w.heap.size + 1 := by rw [← hW1]; simp
  have s2 : W2.heap.size = w.heap.size + 1 + 1 := by rw [← hW2]; simp [s1]
  have s3 : W3.heap.size = w.heap.size + 1 + 1 + 1 := by rw [← hW3]; simp [s2]
  have hs0 : W0.heap.size = w.heap.size + 4 := by rw [← hW0]; simp [s3]
  have hB0 : Below w.heap.size w W0 := by
    rw [← hW0, ← hW3, ← hW2, ← hW1]
    exact ((((Below.refl _ w).alloc (Nat.le_refl _) _).alloc (by simp) _).alloc (by simp; omega) _).alloc (by simp; omega) _
  have ca : W0.cell? ⟨w.heap.size, 0, none⟩ = some (.int .i64 (a : Int)) := by
    rw [← hW0, cell_alloc _ (by omega), ← hW3, cell_alloc _ (by omega), ← hW2, cell_alloc _ (by omega), ← hW1, cell_new]; rfl
  have cc : W0.cell? ⟨w.heap.size + 1, 0, none⟩ = some (.int .i64 1) := by
    rw [← hW0, cell_alloc _ (by omega), ← hW3, cell_alloc _ (by omega), ← hW2, ← s1, cell_new]; rfl
  have fc : W0.frozen? ⟨w.heap.size + 1, 0, none⟩ = false := by
    rw [← hW0, frozen_alloc _ (by omega), ← hW3, frozen_alloc _ (by omega), ← hW2, ← s1, frozen_new]
  have cf : W0.cell? ⟨w.heap.size + 1 + 1, 0, none⟩ = some (.func (.func 75) #[] #[.pointer (some ⟨w.heap.size + 1, 0, none⟩)]) := by
    rw [← hW0, cell_alloc _ (by omega), ← hW3, ← s2, cell_new]; rfl
  have ck : W0.cell? ⟨w.heap.size + 1 + 1 + 1, 0, none⟩ = some (.int .i64 (k : Int)) := by
    rw [← hW0, ← s3, cell_new]; rfl
  clear hW1 hW2 hW3 hW0 s1 s2 s3
  have hP : 1 < Chart.Q := by decide
  refine wpIn_rangeFunc_ownF rfl (by omega) (gf := 94) (lb := #[.pointer (some ⟨w.heap.size + 1 + 1 + 1, 0, none⟩)]) rfl trivial (enters_of Tryz.func94 (by kernel_rfl) rfl)
    (binary1_stops _ (by omega) (w.heap.size + 1 + 1 + 1) k hk W0 (by omega) ck) (fun h1 h2 => keepsCell_t h1 h2) (keepsCell_b (by omega)) (Below.refl _ _) (fun _ => rfl)
    (fun pre W => PowI w a (Chart.pfold Chart.Q a pre) W)
    (fun _ _ _ => False)
    (by rw [hs0]; exact powI_own w a _)
    (fun _ _ _ _ _ hs _ _ => hs)
    ⟨⟨ca, cc, fc, cf, by omega⟩, hB0⟩
    (fun x => { tmps := #[.int .i64 (a : Int), .int .i64 (k : Int), .pointer (some ⟨w.heap.size, 0, none⟩), undef, .int .i64 0, .pointer (some ⟨w.heap.size + 1, 0, none⟩), .pointer (some ⟨w.heap.size + 1 + 1, 0, none⟩), .bool x, .func (.func 75) #[] #[.pointer (some ⟨w.heap.size + 1, 0, none⟩)], .int .i64 (k : Int), .func (.func 94) #[] #[.pointer (some ⟨w.heap.size + 1 + 1 + 1, 0, none⟩)], .bool x, undef, undef, undef, undef, undef, undef, undef, undef], defers := [] }) ?assign ?body ?done ?stop
  case assign =>
    intro l x W K hK
    gi_wp2
    exact hK
  case body =>
    rintro l pre x W hI _
    have hlt := Chart.pfold_lt Chart.Q a hP pre
    have hsn := Chart.pfold_snoc Chart.Q a pre x
    generalize Chart.pfold Chart.Q a pre = c at *
    have Hsn := Lib.hid hsn; clear hsn
    obtain ⟨⟨hca, hcc, hfc, hcf, hsz⟩, hB⟩ := hI
    have hI := Lib.hid (show PowI w a c W from ⟨⟨hca, hcc, hfc, hcf, hsz⟩, hB⟩)
    have C1 := Lib.hid (ftimes_any c c (w.heap.size + 1) hlt hlt W hcc hfc)
    have hlt2 : c * c % Chart.Q < Chart.Q := Nat.mod_lt _ (by omega)
    generalize hc2 : c * c % Chart.Q = c2 at *
    replace hc2 := Lib.hid hc2
    gi_wp2_with fail
    refine ⟨trivial, CallsIn.mono (CallsIn.inRound l (callsIn_wide.2 C1.out)) ?_⟩
    rintro e w1 ht
    obtain ⟨hI1, ho1, hk1⟩ := powI_times hI.out ht
    obtain ⟨rfl, _⟩ := ht
    cases x
    · gi_wp2_with fail
      refine ⟨ho1, hk1, ?_⟩
      show PowI w a (Chart.pfold Chart.Q a (pre ++ [false])) w1
      rw [Hsn.out]
      unfold Chart.pstep
      rw [if_neg (by decide), hc2.out]
      exact hI1
    · have hI1' := Lib.hid hI1
      obtain ⟨⟨h1a, h1c, h1f, h1g, h1s⟩, hB1⟩ := hI1
      have C3 := Lib.hid (ftimes_any c2 a (w.heap.size + 1) hlt2 ha w1 h1c h1f)
      gi_wp2_with fail
      refine ⟨trivial, CallsIn.mono (CallsIn.inRound l (callsIn_wide.2 C3.out)) ?_⟩
      rintro e w2 ht2
      obtain ⟨hI2, ho2, hk2⟩ := powI_times hI1'.out ht2
      obtain ⟨rfl, _⟩ := ht2
      gi_wp2_with fail
      refine ⟨ho1.trans ho2, keepsCell_t hk1 hk2, ?_⟩
      show PowI w a (Chart.pfold Chart.Q a (pre ++ [true])) w2
      rw [Hsn.out]
      unfold Chart.pstep
      rw [if_pos rfl, hc2.out]
      exact hI2
  case done =>
    rintro D ys W hD rfl ⟨⟨hca, hcc, hfc, hcf, hsz⟩, hB⟩ hK
    gi_wp2
    refine ⟨by simp, .inl ⟨_, _, rfl, run_takeDeferred hK, ?_⟩⟩
    exact ⟨_, results_tmp rfl _ _ _, by rw [← Chart.pfold_bits Chart.Q a k _ hP (bitLen_lt k (by omega))]; rfl, hB.trans (belowK_b (w := w) (Nat.le_refl _) W D _ _ (by omega) hK rfl rfl)⟩
  case stop =>
    rintro D c pre W _ _ h _
    exact h.elim

theorem finv_ok (a : Nat) (h0 : 0 < a) (ha : a < Chart.Q) (w : World) :
    Calls Tryz.prog 34 #[.int .i64 a] w fun e w' => e = two ((a ^ (Chart.Q - 2) % Chart.Q : Nat) : Int) 0 ∧ Below w.heap.size w w' := by
  have h := outB_nat ha
  have b0 : ((a : Int) == 0) = false := beq_eq_false_iff_ne.2 (by omega)
  have hQ2 : Chart.Q - 2 = 2305843009213688667 := rfl
  have C1 := Lib.hid (fpower_any a (Chart.Q - 2) ha (by rw [hQ2]; decide) (w.alloc (.cells #[.int .i64 (a : Int)] 3)))
  obtain ⟨r, hr⟩ : ∃ r, r = a ^ (Chart.Q - 2) % Chart.Q := ⟨_, rfl⟩
  rw [← hr] at C1 ⊢
  rw [hQ2] at C1
  clear hr hQ2 h0 ha
  go_enter Tryz.func34, Tryz.ntmps34
  go_wp2_with fail
  refine (outside_one (a : Int) w).mono ?_
  rintro e w1 ⟨rfl, rfl⟩
  rw [h]
  go_wp2_with fail
  refine C1.out.mono ?_
  rintro e w1 ⟨rfl, hb1⟩
  go_wp2_with fail
  go_ret2
  exact ⟨rfl, ((Below.refl _ _).alloc (Nat.le_refl _) _).trans (hb1.mono (by simp))⟩

theorem finv_bad (x : Int) (h : outB x = true) (w : World) :
    Calls Tryz.prog 34 #[.int .i64 x] w fun e w' => e = two 0 1 ∧ Below w.heap.size w w' := by
  go_enter Tryz.func34, Tryz.ntmps34
  go_wp2_with fail
  refine (outside_one x w).mono ?_
  rintro e w1 ⟨rfl, rfl⟩
  rw [h]
  clear h
  go_wp2_with fail
  go_ret2
  exact ⟨rfl, (Below.refl _ _).alloc (Nat.le_refl _) _⟩

theorem finv_zero (w : World) :
    Calls Tryz.prog 34 #[.int .i64 0] w fun e w' => e = two 0 30 ∧ Below w.heap.size w w' := by
  have h : outB 0 = false := rfl
  go_enter Tryz.func34, Tryz.ntmps34
  go_wp2_with fail
  refine (outside_one 0 w).mono ?_
  rintro e w1 ⟨rfl, rfl⟩
  rw [h]
  go_wp2_with fail
  go_ret2
  exact ⟨rfl, (Below.refl _ _).alloc (Nat.le_refl _) _⟩

end Go.Proofs.YtejjincnghmbbaaGreatDoor
