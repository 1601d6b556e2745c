/- group.times, group.digits (an iterator over bits) and group.power. -/
import Derived.RangeFuncNested
import Derived.RangeFuncFrom
import Derived.RangeFuncBound
import Derived.RangeFuncCalls
import Derived.RangeFuncLeaves
import Derived.Shelf.Abstract
import Derived.Shelf.RegionOpen
import Derived.OwnWalkIn
import Derived.TacticsInMore
import Derived.LoopNIn
import Derived.LoopIn
import Derived.Deep.QuietTactic
import Derived.BigQuiet
import Derived.Deep.RegionWith
import Derived.Test.YtejjincnghmbbaaGreatDoorM7
import Derived.Test.YtejjincnghmbbaaGreatDoorM10
import Derived.Test.YtejjincnghmbbaaGreatDoorM9
import Derived.Test.YtejjincnghmbbaaGreatDoorM8
import Derived.Test.YtejjincnghmbbaaGreatDoorM17
import Derived.Test.YtejjincnghmbbaaGreatDoorM19
namespace Go.Proofs.YtejjincnghmbbaaGreatDoor
open Go.RowKit Go.Shelf
attribute [local go_sem] Oper.semAt_some

/-- The modulus of the group. -/
def PP : Nat := 4611686018427377339
theorem PP_eq : PP = 4611686018427377339 := rfl

theorem times_any (a b : Nat) (ha : a < PP) (hb : b < PP) (w : World) :
    Calls Tryz.prog 46 #[.int .u64 a, .int .u64 b] w fun e w' => e = .returned (.int .u64 ((a * b % PP : Nat) : Int)) ∧ Below w.heap.size w w' := by
  have hQ := PP_eq
  have h1 : a < 18446744073709551616 := by omega
  have h2 : b < 18446744073709551616 := by omega
  have h5 : a * b / 18446744073709551616 < 4611686018427377339 := by
    have h6 : a * b < 4611686018427377339 * 18446744073709551616 := Nat.mul_lt_mul_of_lt_of_le (by omega) (by omega) (by decide)
    exact (Nat.div_lt_iff_lt_mul (by decide)).2 h6
  have h7 := Nat.div_add_mod' (a * b) 18446744073709551616
  have h9 : a * b % 18446744073709551616 < 18446744073709551616 := Nat.mod_lt _ (by decide)
  obtain ⟨hi, hhi⟩ : ∃ n, n = a * b / 18446744073709551616 := ⟨_, rfl⟩
  obtain ⟨lo, hlo⟩ : ∃ n, n = a * b % 18446744073709551616 := ⟨_, rfl⟩
  obtain ⟨r, hr⟩ : ∃ n, n = a * b % PP := ⟨_, rfl⟩
  have c1 := mul64_any a b h1 h2 w
  have c2 := div64_any hi lo 4611686018427377339 (by omega) (by omega) (by decide) w
  rw [← hhi, ← hlo] at c1 h7
  rw [h7, ← PP_eq, ← hr] at c2
  rw [← hr]
  have C1 := Lib.hid c1; have C2 := Lib.hid c2
  clear c1 c2 h7 hhi hlo hr hQ h5 h9 h1 h2 ha hb
  go_enter Tryz.func46, Tryz.ntmps46
  go_wp2_with fail
  refine C1.out.mono ?_
  rintro e w' ⟨rfl, rfl⟩
  go_wp2_with fail
  refine C2.out.mono ?_
  rintro e w' ⟨rfl, hb⟩
  go_wp2_with fail
  go_ret
  exact ⟨rfl, hb⟩

/-- A bit, as the code asks for it. -/
theorem bit_of (k j : Nat) (hk : k < 18446744073709551616) : (bits BinOp.and IntKind.u64 ((k : Int) / 2 ^ j) 1 == 1) = k.testBit j := by
  have e : (k : Int) / 2 ^ j = ((k / 2 ^ j : Nat) : Int) := by simp
  have hle := Nat.div_le_self k (2 ^ j)
  have h := bits_and_u64_nat (k / 2 ^ j) 1 (by omega) (by omega)
  rw [e, show (1 : Int) = ((1 : Nat) : Int) from rfl, h, Nat.and_one_is_mod, Nat.testBit_eq_decide_div_mod_eq]
  by_cases hb : k / 2 ^ j % 2 = 1
  · rw [hb]; rfl
  · have h0 : k / 2 ^ j % 2 = 0 := by omega
    rw [h0]; rfl

set_option maxRecDepth 100000 in
set_option maxHeartbeats 1000000 in
theorem digits1_in (n : Nat) (hn : 1 ≤ n) (l Bn k : Nat) (hk : k < 18446744073709551616) (J Jx : List Bool → World → Prop)
    (hY : ∀ pre x W, J pre W → pre.length < Lib.bitLen k → YieldAt Fence.wide (n - 1) Tryz.prog l #[.bool x] W fun e W' =>
      (e = .returned (.bool true) ∧ J (pre ++ [x]) W' ∧ KeepsCell Bn W W') ∨ (e = .returned (.bool false) ∧ Jx (pre ++ [x]) W'))
    (W : World) (hBn : W.cell? ⟨Bn, 0, none⟩ = some (.int .u64 k)) (h0 : J [] W) :
    CallsIn Fence.wide n Tryz.prog 78 #[.func (.yield l) #[] #[], .pointer (some ⟨Bn, 0, none⟩)] W fun e W' => (∃ v, e = .returned v) ∧
      ((∃ ys, ys = Chart.bitsOf k (Lib.bitLen k) ∧ J ys W') ∨ (∃ pre, pre <+: Chart.bitsOf k (Lib.bitLen k) ∧ Jx pre W')) := by
  refine callsIn_of_wp Tryz.func78 rfl trivial ?_ rfl
  simp only [Tryz.ntmps78, List.size_toArray, List.length_cons, List.length_nil, Nat.reduceAdd, Nat.reduceSub, Array.replicate_succ, Array.replicate_zero, List.push_toArray, List.append_toArray, List.nil_append, List.cons_append]
  have hl := bitLen_le k (by omega)
  gi_wp2_with fail
  refine ⟨trivial, (callsIn_wide.2 (len64_any (k : Int) (by omega) (by omega) W)).mono ?_⟩
  rintro e w' ⟨rfl, rfl⟩
  rw [Int.toNat_natCast]
  have hlen := Chart.bitsOf_length k (Lib.bitLen k)
  generalize hL : Lib.bitLen k = L at *
  have HL := Lib.hid hL; clear hL
  have Hlen := Lib.hid hlen; clear hlen
  gi_wp2_with fail
  gi_loopw [3] (fun i wr => ∃ (pre : List Bool) (j : Nat), j ≤ L ∧ i = .int .i64 ((j : Int) - 1) ∧ Hid (Chart.bitsOf k L = pre ++ Chart.bitsOf k j) ∧ J pre wr ∧ wr.cell? ⟨Bn, 0, none⟩ = some (.int .u64 k))
    (fun i _ => (intOf i + 1).toNat)
  case atStart =>
    exact ⟨[], L, Nat.le_refl _, rfl, Lib.hid rfl, h0, hBn⟩
  case round =>
    obtain ⟨pre, j, hj, rfl, hx, hJ, hB⟩ := hrel
    cases j with
    | zero =>
      gi_wp2
      go_end0
      exact ⟨⟨_, rfl⟩, .inl ⟨pre, by rw [HL.out, hx.out]; simp [Chart.bitsOf], hJ⟩⟩
    | succ j =>
      have hpl : pre.length < L := by
        have := congrArg List.length hx.out
        rw [Hlen.out, List.length_append, Chart.bitsOf_length] at this
        omega
      have hbit := bit_of k j hk
      have hpre : Chart.bitsOf k L = (pre ++ [k.testBit j]) ++ Chart.bitsOf k j := by rw [hx.out]; simp [Chart.bitsOf]
      generalize k.testBit j = x at *
      have Hpre := Lib.hid hpre; clear hpre hx
      obtain ⟨fn, tmps, assign, body, hy, hR⟩ := hY pre x wr hJ hpl
      gi_wp2_with fail
      refine hR.mono ?_
      rintro e W3 (⟨rfl, hJ3, hk3⟩ | ⟨rfl, hJx3⟩)
      · have hB3 : W3.cell? ⟨Bn, 0, none⟩ = some (.int .u64 k) := hk3.trans hB
        gi_wp2
        go_roundw
        case rel => exact ⟨pre ++ [x], j, by omega, by first | rfl | (congr 1; omega), Hpre, hJ3, hB3⟩
        case measure => simp [intOf] <;> omega
      · gi_wp2
        refine bodyPost_ret (results_none rfl _ _ _) rfl ?_
        exact ⟨⟨_, rfl⟩, .inr ⟨pre ++ [x], ⟨Chart.bitsOf k j, by rw [HL.out]; exact Hpre.out.symm⟩, hJx3⟩⟩

theorem digits1_stops (n : Nat) (hn : 1 ≤ n) (Bn k : Nat) (hk : k < 18446744073709551616) (w : World) (hlt : Bn < w.heap.size) (hBn : w.cell? ⟨Bn, 0, none⟩ = some (.int .u64 k)) :
    SeqStopsK Fence.wide n Tryz.prog 78 #[.pointer (some ⟨Bn, 0, none⟩)] (fun x : Bool => #[Value.bool x]) (KeepsCell Bn) (fun xs => xs = Chart.bitsOf k (Lib.bitLen k)) (fun pre => pre <+: Chart.bitsOf k (Lib.bitLen k)) (Lib.bitLen k) w :=
  fun l J Jx W hW _ _ hY h0 => digits1_in n hn l Bn k hk J Jx (fun pre x W1 hJ hlen => hY pre x W1 hJ hlen) W ((hW.cell (p := ⟨Bn, 0, none⟩) hlt).trans hBn) h0

theorem digits_any (k : Int) (w : World) :
    Calls Tryz.prog 59 #[.int .u64 k] w fun e w' => e = .returned (.func (.func 78) #[] #[.pointer (some ⟨w.heap.size, 0, none⟩)]) ∧ w.alloc (.cells #[.int .u64 k] 50) = w' := by
  go_enter Tryz.func59, Tryz.ntmps59
  go_wp2
  go_ret
  exact ⟨rfl, rfl⟩

set_option maxRecDepth 100000 in
set_option maxHeartbeats 2000000 in
theorem gpower_any (a k : Nat) (ha : a < PP) (hk : k < 18446744073709551616) (w : World) :
    Calls Tryz.prog 43 #[.int .u64 a, .int .u64 k] w fun e w' => e = .returned (.int .u64 ((a ^ k % PP : Nat) : Int)) ∧ Below w.heap.size w w' := by
  refine (callsIn_wide (n := 6)).1 ?_
  refine callsIn_of_wp_marks Tryz.func43 rfl trivial ?_ rfl
  simp only [Tryz.ntmps43, List.size_toArray, List.length_cons, List.length_nil, Nat.reduceAdd, Nat.reduceSub, Array.replicate_succ, Array.replicate_zero, List.push_toArray, List.append_toArray, List.nil_append, List.cons_append]
  gi_wp2_with fail
  refine ⟨trivial, (callsIn_wide.2 (digits_any (k : Int) _)).mono ?_⟩
  rintro e w' ⟨rfl, rfl⟩
  gi_wp2_with fail
  obtain ⟨W0, hW0⟩ : ∃ W0, ((w.alloc (.cells #[.int .u64 (a : Int)] 50)).alloc (.cells #[.int .u64 1] 50)).alloc (.cells #[.int .u64 (k : Int)] 50) = W0 := ⟨_, rfl⟩
  have hs0 : W0.heap.size = w.heap.size + 3 := by rw [← hW0]; simp
  have hB0 : Below w.heap.size w W0 := by rw [← hW0]; exact (((Below.refl _ w).alloc (Nat.le_refl _) _).alloc (by simp) _).alloc (by simp; omega) _
  have ca : W0.cell? ⟨w.heap.size, 0, none⟩ = some (.int .u64 (a : Int)) := by
    rw [← hW0, cell_alloc _ (by simp; omega), cell_alloc _ (by simp), cell_new]; rfl
  have cc : W0.cell? ⟨w.heap.size + 1, 0, none⟩ = some (.int .u64 1) := by
    rw [← hW0, cell_alloc _ (by simp)]
    have := cell_new (w.alloc (.cells #[.int .u64 (a : Int)] 50)) #[.int .u64 1] 50 0
    rw [World.size_alloc] at this
    rw [this]; rfl
  have fc : W0.frozen? ⟨w.heap.size + 1, 0, none⟩ = false := by
    rw [← hW0, frozen_alloc _ (by simp)]
    have := frozen_new (w.alloc (.cells #[.int .u64 (a : Int)] 50)) #[.int .u64 1] 50 0
    rw [World.size_alloc] at this
    exact this
  have ck : W0.cell? ⟨w.heap.size + 1 + 1, 0, none⟩ = some (.int .u64 (k : Int)) := by
    have := cell_new ((w.alloc (.cells #[.int .u64 (a : Int)] 50)).alloc (.cells #[.int .u64 1] 50)) #[.int .u64 (k : Int)] 50 0
    rw [World.size_alloc, World.size_alloc] at this
    rw [← hW0, this]; rfl
  rw [hW0]
  have hP : 1 < PP := by decide
  refine wpIn_rangeFunc_ownF rfl (by omega) (gf := 78) (lb := #[.pointer (some ⟨w.heap.size + 1 + 1, 0, none⟩)]) rfl trivial (enters_of Tryz.func78 (by kernel_rfl) rfl)
    (digits1_stops _ (by omega) (w.heap.size + 1 + 1) k hk W0 (by omega) ck) (fun h1 h2 => keepsCell_t h1 h2) (keepsCell_b (by omega)) (Below.refl _ _) (fun _ => rfl)
    (fun pre W => (W.cell? ⟨w.heap.size, 0, none⟩ = some (.int .u64 (a : Int)) ∧ W.cell? ⟨w.heap.size + 1, 0, none⟩ = some (.int .u64 ((Chart.pfold PP a pre : Nat) : Int)) ∧ W.frozen? ⟨w.heap.size + 1, 0, none⟩ = false ∧ w.heap.size + 3 ≤ W.heap.size) ∧ Below w.heap.size w W)
    (fun _ _ _ => False)
    (OwnFrom.and (Own.from (fun s A B row hs hg hr => ⟨cell_kept hs.1 hg hr, cell_kept hs.2.1 hg hr, (frozen_kept hs.2.1 hg hr).trans hs.2.2.1, Nat.le_trans hs.2.2.2 hg.size⟩) _) (ownFrom_below (Nat.le_refl _) (by omega)))
    (fun _ _ _ _ _ hs _ _ => hs)
    ⟨⟨ca, cc, fc, by omega⟩, hB0⟩
    (fun x => { tmps := #[.int .u64 (a : Int), .int .u64 (k : Int), .pointer (some ⟨w.heap.size, 0, none⟩), undef, .int .u64 0, .pointer (some ⟨w.heap.size + 1, 0, none⟩), .bool x, .int .u64 (k : Int), .func (.func 78) #[] #[.pointer (some ⟨w.heap.size + 1 + 1, 0, none⟩)], .bool x, undef, undef, undef, undef, undef, undef, undef, undef], defers := [] }) ?assign ?body ?done ?stop
  case assign =>
    intro l x W K hK
    gi_wp2
    exact hK
  case body =>
    rintro l pre x W ⟨⟨hca, hcc, hfc, hsz⟩, hB⟩ _
    have hlt := Chart.pfold_lt PP a hP pre
    have hsn := Chart.pfold_snoc PP a pre x
    generalize Chart.pfold PP a pre = c at *
    have Hsn := Lib.hid hsn; clear hsn
    have c1 := times_any c c hlt hlt W
    have hlt2 : c * c % PP < PP := Nat.mod_lt _ (by omega)
    generalize hc2 : c * c % PP = c2 at *
    replace hc2 := Lib.hid hc2
    have C1 := Lib.hid c1; clear c1
    gi_wp2_with fail
    refine ⟨trivial, CallsIn.mono (CallsIn.inRound l (callsIn_wide.2 C1.out)) ?_⟩
    rintro e w1 ⟨rfl, hb1⟩
    obtain ⟨bc1, bf1⟩ := bcell hb1
    have h1a : w1.cell? ⟨w.heap.size, 0, none⟩ = some (.int .u64 (a : Int)) := (bc1 _ _ (by omega)).trans hca
    have h1c : w1.cell? ⟨w.heap.size + 1, 0, none⟩ = some (.int .u64 (c : Int)) := (bc1 _ _ (by omega)).trans hcc
    have h1f : w1.frozen? ⟨w.heap.size + 1, 0, none⟩ = false := (bf1 _ _ (by omega)).trans hfc
    have hs1 := hb1.size
    have hB1 : Below w.heap.size w w1 := hB.trans (hb1.mono (by omega))
    have hk1 : KeepsCell (w.heap.size + 1 + 1) W w1 := keepsCell_below hb1 (by omega)
    have ho1 : KeepsOthers W w1 := keepsOthers_below hb1
    clear bc1 bf1
    cases x
    · gi_wp2_with fail
      refine ⟨ho1.trans (KeepsOthers.setCell _ _ _), keepsCell_t hk1 (keepsCell_set (by omega) _), ⟨?_, ?_, ?_, ?_⟩, below_setCell hB1 (by omega) _ _⟩
      · rw [cell_set_other (by omega)]; exact h1a
      · rw [Hsn.out]
        unfold Chart.pstep
        rw [if_neg (by decide), hc2.out]
        exact cell_set_same _ _ _ _ h1c
      · rw [frozen_set]; exact h1f
      · simp; omega
    · have c3 := times_any c2 a hlt2 ha (w1.setCell ⟨w.heap.size + 1, 0, none⟩ (.int .u64 (c2 : Int)))
      have e3 : ((c * c % PP) * a % PP : Nat) = c2 * a % PP := by rw [hc2.out]
      generalize c2 * a % PP = d at *
      have C3 := Lib.hid c3
      have E3 := Lib.hid e3
      clear c3 e3
      gi_wp2_with fail
      refine ⟨trivial, CallsIn.mono (CallsIn.inRound l (callsIn_wide.2 C3.out)) ?_⟩
      rintro e w2 ⟨rfl, hb2⟩
      obtain ⟨bc2, bf2⟩ := bcell hb2
      have hsz2 : (w1.setCell ⟨w.heap.size + 1, 0, none⟩ (.int .u64 (c2 : Int))).heap.size = w1.heap.size := by simp
      rw [hsz2] at bc2 bf2
      have h2a : w2.cell? ⟨w.heap.size, 0, none⟩ = some (.int .u64 (a : Int)) := by rw [bc2 _ _ (by omega), cell_set_other (by omega)]; exact h1a
      have h2c : w2.cell? ⟨w.heap.size + 1, 0, none⟩ = some (.int .u64 (c2 : Int)) := by rw [bc2 _ _ (by omega)]; exact cell_set_same _ _ _ _ h1c
      have h2f : w2.frozen? ⟨w.heap.size + 1, 0, none⟩ = false := by rw [bf2 _ _ (by omega), frozen_set]; exact h1f
      have hs2 := hb2.size
      rw [hsz2] at hs2
      have hB2 : Below w.heap.size w w2 := (below_setCell hB1 (by omega) 0 _).trans (hb2.mono (by omega))
      have hk2 : KeepsCell (w.heap.size + 1 + 1) W w2 := keepsCell_t hk1 (keepsCell_t (keepsCell_set (by omega) _) (keepsCell_below hb2 (by omega)))
      have ho2 : KeepsOthers W w2 := ho1.trans ((KeepsOthers.setCell _ _ _).trans (keepsOthers_below hb2))
      clear bc2 bf2 hsz2
      gi_wp2_with fail
      refine ⟨ho2.trans (KeepsOthers.setCell _ _ _), keepsCell_t hk2 (keepsCell_set (by omega) _), ⟨?_, ?_, ?_, ?_⟩, below_setCell hB2 (by omega) _ _⟩
      · rw [cell_set_other (by omega)]; exact h2a
      · rw [Hsn.out]
        unfold Chart.pstep
        rw [if_pos rfl, E3.out]
        exact cell_set_same _ _ _ _ h2c
      · rw [frozen_set]; exact h2f
      · simp; omega
  case done =>
    rintro D ys W hD rfl ⟨⟨hca, hcc, hfc, hsz⟩, hB⟩ hK
    gi_wp2
    refine ⟨by simp, .inl ⟨_, _, rfl, run_takeDeferred hK, ?_⟩⟩
    exact ⟨_, results_tmp rfl _ _ _, by rw [← Chart.pfold_bits PP a k _ hP (bitLen_lt k (by omega))]; rfl, hB.trans (belowK_b (w := w) (Nat.le_refl _) W D _ _ (by omega) hK rfl rfl)⟩
  case stop =>
    rintro D c pre W _ _ h _
    exact h.elim

end Go.Proofs.YtejjincnghmbbaaGreatDoor

/- group.Check, Mul, Inv, Exp, Base. -/
namespace Go.Proofs.YtejjincnghmbbaaGreatDoor
open Go.RowKit

/-- An element of the group. -/
def Grp (a : Nat) : Prop := 1 ≤ a ∧ a < PP ∧ a ^ Chart.Q % PP = 1

theorem gcheck_ok (a : Nat) (h : Grp a) (w : World) :
    Calls Tryz.prog 14 #[.int .i64 a] w fun e w' => e = .returned (.int .i64 0) ∧ Below w.heap.size w w' := by
  obtain ⟨h1, h2, h3⟩ := h
  have hP := PP_eq
  have hQ := Q_eq
  have e1 : IntKind.u64.wrap (a : Int) = (a : Int) := wrap_small a (by omega)
  have c := gpower_any a Chart.Q h2 (by omega) w
  rw [h3] at c
  rw [hQ] at c
  have C := Lib.hid c
  obtain ⟨x, hx⟩ : ∃ x : Int, x = (a : Int) := ⟨_, rfl⟩
  have b1 : ¬ x < 1 := by omega
  have b2 : ¬ (4611686018427377339 : Int) ≤ x := by omega
  rw [← hx] at C e1 ⊢
  clear c h1 h2 h3 hP hQ hx
  go_enter Tryz.func14, Tryz.ntmps14
  go_wp2_with fail
  refine C.out.mono ?_
  rintro e w' ⟨rfl, hb⟩
  go_wp2_with fail
  go_ret
  exact ⟨rfl, hb⟩

theorem gcheck_out (x : Int) (h : x < 1 ∨ 4611686018427377339 ≤ x) (w : World) :
    Calls Tryz.prog 14 #[.int .i64 x] w fun e w' => e = .returned (.int .i64 40) ∧ Below w.heap.size w w' := by
  by_cases b1 : x < 1
  · clear h
    go_enter Tryz.func14, Tryz.ntmps14
    go_wp2_with fail
    go_ret
    exact ⟨rfl, Below.refl _ _⟩
  · have b2 : (4611686018427377339 : Int) ≤ x := by omega
    clear h
    go_enter Tryz.func14, Tryz.ntmps14
    go_wp2_with fail
    go_ret
    exact ⟨rfl, Below.refl _ _⟩

theorem gcheck_not (a : Nat) (h1 : 1 ≤ a) (h2 : a < PP) (h3 : a ^ Chart.Q % PP ≠ 1) (w : World) :
    Calls Tryz.prog 14 #[.int .i64 a] w fun e w' => e = .returned (.int .i64 40) ∧ Below w.heap.size w w' := by
  have hP := PP_eq
  have hQ := Q_eq
  have e1 : IntKind.u64.wrap (a : Int) = (a : Int) := wrap_small a (by omega)
  have c := gpower_any a Chart.Q h2 (by omega) w
  obtain ⟨r, hr⟩ : ∃ r, r = a ^ Chart.Q % PP := ⟨_, rfl⟩
  rw [← hr] at c h3
  rw [hQ] at c
  have C := Lib.hid c
  obtain ⟨x, hx⟩ : ∃ x : Int, x = (a : Int) := ⟨_, rfl⟩
  have b1 : ¬ x < 1 := by omega
  have b2 : ¬ (4611686018427377339 : Int) ≤ x := by omega
  have b3 : ((r : Int) != 1) = true := by rw [bne_iff_ne]; omega
  rw [← hx] at C e1 ⊢
  clear c h1 h2 h3 hP hQ hx hr
  go_enter Tryz.func14, Tryz.ntmps14
  go_wp2_with fail
  refine C.out.mono ?_
  rintro e w' ⟨rfl, hb⟩
  go_wp2_with fail
  go_ret
  exact ⟨rfl, hb⟩

/-- A number that is no element. -/
theorem gcheck_bad (x : Int) (h : ¬ ∃ n : Nat, x = n ∧ Grp n) (w : World) :
    Calls Tryz.prog 14 #[.int .i64 x] w fun e w' => e = .returned (.int .i64 40) ∧ Below w.heap.size w w' := by
  by_cases hx : x < 1 ∨ 4611686018427377339 ≤ x
  · exact gcheck_out x hx w
  · have hP := PP_eq
    obtain ⟨n, rfl⟩ := Int.eq_ofNat_of_zero_le (show 0 ≤ x by omega)
    refine gcheck_not n (by omega) (by omega) (fun h3 => h ⟨n, rfl, by omega, by omega, h3⟩) w

theorem gexp_ok (a k : Nat) (h : Grp a) (hk : k < Chart.Q) (w : World) :
    Calls Tryz.prog 20 #[.int .i64 a, .int .i64 k] w fun e w' => e = two ((a ^ k % PP : Nat) : Int) 0 ∧ Below w.heap.size w w' := by
  have hP := PP_eq
  have hQ := Q_eq
  have h2 := h.2.1
  have e1 : IntKind.u64.wrap (a : Int) = (a : Int) := wrap_small a (by omega)
  have e2 : IntKind.u64.wrap (k : Int) = (k : Int) := wrap_small k (by omega)
  have c1 := gcheck_ok a h w
  have C1 := Lib.hid c1
  have C2 := Lib.hid (gpower_any a k h.2.1 (by omega))
  obtain ⟨r, hr⟩ : ∃ r, r = a ^ k % PP := ⟨_, rfl⟩
  have e3 : IntKind.i64.wrap (r : Int) = (r : Int) := wrap_i64_small _ (by omega) (by rw [hr]; have := Nat.mod_lt (a ^ k) (show PP > 0 by omega); omega)
  rw [← hr] at C2 ⊢
  obtain ⟨x, hx⟩ : ∃ x : Int, x = (k : Int) := ⟨_, rfl⟩
  have b1 : ¬ x < 0 := by omega
  have b2 : ¬ (2305843009213688669 : Int) ≤ x := by omega
  rw [← hx] at C2 e2 ⊢
  clear c1 hP hQ h2 hr hk h hx
  go_enter Tryz.func20, Tryz.ntmps20
  go_wp2_with fail
  refine C1.out.mono ?_
  rintro e w1 ⟨rfl, hb1⟩
  go_wp2_with fail
  refine (C2.out w1).mono ?_
  rintro e w2 ⟨rfl, hb2⟩
  go_wp2_with fail
  go_ret2
  exact ⟨rfl, hb1.trans (hb2.mono hb1.size)⟩

theorem gexp_bad (x k : Int) (h : ¬ ∃ n : Nat, x = n ∧ Grp n) (w : World) :
    Calls Tryz.prog 20 #[.int .i64 x, .int .i64 k] w fun e w' => e = two 0 40 ∧ Below w.heap.size w w' := by
  have C1 := Lib.hid (gcheck_bad x h w)
  clear h
  go_enter Tryz.func20, Tryz.ntmps20
  go_wp2_with fail
  refine C1.out.mono ?_
  rintro e w1 ⟨rfl, hb1⟩
  go_wp2_with fail
  go_ret2
  exact ⟨rfl, hb1⟩

theorem gexp_arg (a : Nat) (k : Int) (h : Grp a) (hk : k < 0 ∨ 2305843009213688669 ≤ k) (w : World) :
    Calls Tryz.prog 20 #[.int .i64 a, .int .i64 k] w fun e w' => e = two 0 1 ∧ Below w.heap.size w w' := by
  have C1 := Lib.hid (gcheck_ok a h w)
  clear h
  by_cases b1 : k < 0
  · clear hk
    go_enter Tryz.func20, Tryz.ntmps20
    go_wp2_with fail
    refine C1.out.mono ?_
    rintro e w1 ⟨rfl, hb1⟩
    go_wp2_with fail
    go_ret2
    exact ⟨rfl, hb1⟩
  · have b2 : (2305843009213688669 : Int) ≤ k := by omega
    clear hk
    go_enter Tryz.func20, Tryz.ntmps20
    go_wp2_with fail
    refine C1.out.mono ?_
    rintro e w1 ⟨rfl, hb1⟩
    go_wp2_with fail
    go_ret2
    exact ⟨rfl, hb1⟩

theorem index_two (x y : Value) (w : World) :
    (Instr.index 57 (.agg #[x, y]) (.int .i64 0)).run Tryz.prog w = .ok x w ∧ (Instr.index 57 (.agg #[x, y]) (.int .i64 1)).run Tryz.prog w = .ok y w := by
  constructor <;> kernel_rfl

theorem gmul_ok (a b : Nat) (ha : Grp a) (hb : Grp b) (w : World) :
    Calls Tryz.prog 22 #[.int .i64 a, .int .i64 b] w fun e w' => e = two ((a * b % PP : Nat) : Int) 0 ∧ Below w.heap.size w w' := by
  have hP := PP_eq
  have h1 := ha.2.1
  have h2 := hb.2.1
  have e1 : IntKind.u64.wrap (a : Int) = (a : Int) := wrap_small a (by omega)
  have e2 : IntKind.u64.wrap (b : Int) = (b : Int) := wrap_small b (by omega)
  have i0 := fun w => (index_two (.int .i64 (a : Int)) (.int .i64 (b : Int)) w).1
  have i1 := fun w => (index_two (.int .i64 (a : Int)) (.int .i64 (b : Int)) w).2
  have C1 := Lib.hid (gcheck_ok a ha)
  have C2 := Lib.hid (gcheck_ok b hb)
  have C3 := Lib.hid (times_any a b h1 h2)
  obtain ⟨r, hr⟩ : ∃ r, r = a * b % PP := ⟨_, rfl⟩
  have e3 : IntKind.i64.wrap (r : Int) = (r : Int) := wrap_i64_small _ (by omega) (by rw [hr]; have := Nat.mod_lt (a * b) (show PP > 0 by omega); omega)
  rw [← hr] at C3 ⊢
  clear hP h1 h2 hr ha hb
  go_enter Tryz.func22, Tryz.ntmps22
  go_wp2_with fail
  go_loopw [12] (fun i wr => ∃ k : Nat, k ≤ 2 ∧ i = .int .i64 k ∧ Below w.heap.size w wr) (fun i _ => 2 - (intOf i).toNat)
  case atStart => exact ⟨0, by omega, rfl, Below.refl _ _⟩
  case round =>
    obtain ⟨k, hk, rfl, hbw⟩ := hrel
    rcases k with _ | _ | _ | k
    · go_wp2_with fail
      refine (C1.out wr).mono ?_
      rintro e w1 ⟨rfl, hb1⟩
      go_wp2_with fail
      go_roundw
      case rel => exact ⟨1, by omega, rfl, hbw.trans (hb1.mono hbw.size)⟩
      case measure => simp [intOf]
    · go_wp2_with fail
      refine (C2.out wr).mono ?_
      rintro e w1 ⟨rfl, hb1⟩
      go_wp2_with fail
      go_roundw
      case rel => exact ⟨2, by omega, rfl, hbw.trans (hb1.mono hbw.size)⟩
      case measure => simp [intOf]
    · go_wp2_with fail
      refine (C3.out wr).mono ?_
      rintro e w1 ⟨rfl, hb1⟩
      go_wp2_with fail
      go_ret2
      exact ⟨rfl, hbw.trans (hb1.mono hbw.size)⟩
    · omega

theorem gmul_bad1 (x y : Int) (h : ¬ ∃ n : Nat, x = n ∧ Grp n) (w : World) :
    Calls Tryz.prog 22 #[.int .i64 x, .int .i64 y] w fun e w' => e = two 0 40 ∧ Below w.heap.size w w' := by
  have i0 := fun w => (index_two (.int .i64 x) (.int .i64 y) w).1
  have C1 := Lib.hid (gcheck_bad x h)
  clear h
  go_enter Tryz.func22, Tryz.ntmps22
  go_wp2_with fail
  refine wp_loop_rounds 1 ?_
  rw [rounds_succ]
  go_wp2_with fail
  refine (C1.out _).mono ?_
  rintro e w1 ⟨rfl, hb1⟩
  go_wp2_with fail
  go_ret2
  exact ⟨rfl, hb1⟩

theorem gmul_bad2 (a : Nat) (y : Int) (ha : Grp a) (h : ¬ ∃ n : Nat, y = n ∧ Grp n) (w : World) :
    Calls Tryz.prog 22 #[.int .i64 a, .int .i64 y] w fun e w' => e = two 0 40 ∧ Below w.heap.size w w' := by
  have i0 := fun w => (index_two (.int .i64 (a : Int)) (.int .i64 y) w).1
  have i1 := fun w => (index_two (.int .i64 (a : Int)) (.int .i64 y) w).2
  have C1 := Lib.hid (gcheck_ok a ha)
  have C2 := Lib.hid (gcheck_bad y h)
  clear h ha
  go_enter Tryz.func22, Tryz.ntmps22
  go_wp2_with fail
  refine wp_loop_rounds 2 ?_
  rw [rounds_succ]
  go_wp2_with fail
  refine (C1.out _).mono ?_
  rintro e w1 ⟨rfl, hb1⟩
  go_wp2_with fail
  rw [rounds_succ]
  go_wp2_with fail
  refine (C2.out _).mono ?_
  rintro e w2 ⟨rfl, hb2⟩
  go_wp2_with fail
  go_ret2
  exact ⟨rfl, hb1.trans (hb2.mono hb1.size)⟩

theorem ginv_ok (a : Nat) (h : Grp a) (w : World) :
    Calls Tryz.prog 36 #[.int .i64 a] w fun e w' => e = two ((a ^ (Chart.Q - 1) % PP : Nat) : Int) 0 ∧ Below w.heap.size w w' := by
  have C1 := Lib.hid (gexp_ok a 2305843009213688668 h (by rw [Q_eq]; decide) w)
  have hQ : Chart.Q - 1 = 2305843009213688668 := rfl
  rw [← hQ] at C1
  obtain ⟨r, hr⟩ : ∃ r, r = a ^ (Chart.Q - 1) % PP := ⟨_, rfl⟩
  rw [← hr] at C1 ⊢
  rw [hQ] at C1
  clear hr hQ h
  go_enter Tryz.func36, Tryz.ntmps36
  go_wp2_with fail
  refine C1.out.mono ?_
  rintro e w1 ⟨rfl, hb1⟩
  go_wp2_with fail
  go_ret2
  exact ⟨rfl, hb1⟩

theorem ginv_bad (x : Int) (h : ¬ ∃ n : Nat, x = n ∧ Grp n) (w : World) :
    Calls Tryz.prog 36 #[.int .i64 x] w fun e w' => e = two 0 40 ∧ Below w.heap.size w w' := by
  have C1 := Lib.hid (gexp_bad x 2305843009213688668 h w)
  clear h
  go_enter Tryz.func36, Tryz.ntmps36
  go_wp2_with fail
  refine C1.out.mono ?_
  rintro e w1 ⟨rfl, hb1⟩
  go_wp2_with fail
  go_ret2
  exact ⟨rfl, hb1⟩

theorem grp_four : Grp 4 := by
  refine ⟨by decide, by decide, ?_⟩
  rw [← Chart.pm_eq PP 4 64 Chart.Q (by decide)]
  decide +kernel

theorem gbase_ok (k : Nat) (hk : k < Chart.Q) (w : World) :
    Calls Tryz.prog 11 #[.int .i64 k] w fun e w' => e = two ((4 ^ k % PP : Nat) : Int) 0 ∧ Below w.heap.size w w' := by
  have C1 := Lib.hid (gexp_ok 4 k grp_four hk w)
  obtain ⟨r, hr⟩ : ∃ r, r = 4 ^ k % PP := ⟨_, rfl⟩
  rw [← hr] at C1 ⊢
  clear hr hk
  go_enter Tryz.func11, Tryz.ntmps11
  go_wp2_with fail
  refine C1.out.mono ?_
  rintro e w1 ⟨rfl, hb1⟩
  go_wp2_with fail
  go_ret2
  exact ⟨rfl, hb1⟩

theorem gbase_arg (k : Int) (hk : k < 0 ∨ 2305843009213688669 ≤ k) (w : World) :
    Calls Tryz.prog 11 #[.int .i64 k] w fun e w' => e = two 0 1 ∧ Below w.heap.size w w' := by
  have C1 := Lib.hid (gexp_arg 4 k grp_four hk w)
  clear hk
  go_enter Tryz.func11, Tryz.ntmps11
  go_wp2_with fail
  refine C1.out.mono ?_
  rintro e w1 ⟨rfl, hb1⟩
  go_wp2_with fail
  go_ret2
  exact ⟨rfl, hb1⟩

end Go.Proofs.YtejjincnghmbbaaGreatDoor

/- proxy.Check: a capsule's elements. -/
namespace Go.Proofs.YtejjincnghmbbaaGreatDoor
open Go.RowKit

/-- A capsule as cells. -/
def capV (a b : Int) (pad : List UInt8) : List Value := .int .i64 a :: .int .i64 b :: pad.map u8v

set_option maxRecDepth 20000 in
theorem pcheck_any (a b : Int) (pad : List UInt8) (ra rb : Int) (w : World)
    (ha : ∀ w, Calls Tryz.prog 14 #[.int .i64 a] w fun e w' => e = .returned (.int .i64 ra) ∧ Below w.heap.size w w')
    (hb : ∀ w, Calls Tryz.prog 14 #[.int .i64 b] w fun e w' => e = .returned (.int .i64 rb) ∧ Below w.heap.size w w') :
    Calls Tryz.prog 9 #[.agg (capV a b pad).toArray] w fun e w' => e = .returned (.int .i64 (if ra = 0 ∧ rb = 0 then 0 else 110)) ∧ Below w.heap.size w w' := by
  have Ha := Lib.hid ha
  have Hb := Lib.hid hb
  clear ha hb
  obtain ⟨d, hd⟩ : ∃ d, d = capV a b pad := ⟨_, rfl⟩
  rw [← hd]
  obtain ⟨w1, hw1⟩ : ∃ x, x = w.alloc (.cells d.toArray 25) := ⟨_, rfl⟩
  have hR1 : RowIs w1 w.heap.size 25 d := by rw [hw1]; exact RowIs.new w d _
  have hB1 : Below w.heap.size w w1 := by rw [hw1]; exact (Below.refl _ w).alloc (Nat.le_refl _) _
  have c0 : w1.cell? ⟨w.heap.size, 0, none⟩ = some (.int .i64 a) := (hR1.cell 0).trans (by rw [hd]; rfl)
  have c1 : w1.cell? ⟨w.heap.size, 1, none⟩ = some (.int .i64 b) := (hR1.cell 1).trans (by rw [hd]; rfl)
  have H1 := Lib.hid (And.intro hB1 hR1.lt)
  clear hR1 hB1 hd
  go_enter Tryz.func9, Tryz.ntmps9
  go_upto_region 1 with fail
  rw [← hw1]
  clear hw1
  go_wp2_with fail
  refine (Ha.out w1).mono ?_
  rintro e w2 ⟨rfl, hB2⟩
  have c12 := ((bcell hB2).1 w.heap.size 1 H1.out.2).trans c1
  have H2 := Lib.hid (And.intro (H1.out.1.trans (hB2.mono (Nat.le_of_lt H1.out.2))) hB2.size)
  clear hB2
  by_cases h0 : ra = 0
  · subst h0
    go_wp2_with fail
    refine (Hb.out w2).mono ?_
    rintro e w3 ⟨rfl, hB3⟩
    have H3 := Lib.hid (H2.out.1.trans (hB3.mono (Nat.le_trans (Nat.le_of_lt H1.out.2) H2.out.2)))
    clear hB3
    by_cases h1 : rb = 0
    · subst h1
      go_wp2_with fail
      go_ret
      exact ⟨rfl, H3.out⟩
    · go_wp2_with fail
      go_ret
      exact ⟨by simp, H3.out⟩
  · go_wp2_with fail
    go_ret
    exact ⟨by simp, H2.out.1⟩
end Go.Proofs.YtejjincnghmbbaaGreatDoor

/- proxy.Check in two words; proxy.Turn. -/
namespace Go.Proofs.YtejjincnghmbbaaGreatDoor
open Go.RowKit

/-- A number that is an element of the group. -/
def IsGrp (x : Int) : Prop := ∃ n : Nat, x = n ∧ Grp n

theorem pcheck_ok (a b : Nat) (pad : List UInt8) (ha : Grp a) (hb : Grp b) (w : World) :
    Calls Tryz.prog 9 #[.agg (capV a b pad).toArray] w fun e w' => e = .returned (.int .i64 0) ∧ Below w.heap.size w w' :=
  pcheck_any a b pad 0 0 w (gcheck_ok a ha) (gcheck_ok b hb)
theorem gcheck_code (x : Int) : ∃ r : Int, (r = 0 ↔ IsGrp x) ∧ ∀ w, Calls Tryz.prog 14 #[.int .i64 x] w fun e w' => e = .returned (.int .i64 r) ∧ Below w.heap.size w w' := by
  by_cases h : IsGrp x
  · obtain ⟨n, rfl, hn⟩ := h
    exact ⟨0, by simp only [true_iff]; exact ⟨n, rfl, hn⟩, gcheck_ok n hn⟩
  · exact ⟨40, by simp [h], gcheck_bad x h⟩
theorem pcheck_bad (a b : Int) (pad : List UInt8) (h : ¬ (IsGrp a ∧ IsGrp b)) (w : World) :
    Calls Tryz.prog 9 #[.agg (capV a b pad).toArray] w fun e w' => e = .returned (.int .i64 110) ∧ Below w.heap.size w w' := by
  obtain ⟨ra, ha, ca⟩ := gcheck_code a
  obtain ⟨rb, hb, cb⟩ := gcheck_code b
  have := pcheck_any a b pad ra rb w ca cb
  rw [if_neg (by rw [ha, hb]; exact h)] at this
  exact this

def zeroPad : List UInt8 := List.replicate 32 0
/-- The zero capsule as cells. -/
def zeroCap : List Value := capV 0 0 zeroPad
theorem zeroCap_eq : zeroCap = [.int .i64 0, .int .i64 0, .int .u8 0, .int .u8 0, .int .u8 0, .int .u8 0, .int .u8 0, .int .u8 0, .int .u8 0, .int .u8 0, .int .u8 0, .int .u8 0, .int .u8 0, .int .u8 0, .int .u8 0, .int .u8 0, .int .u8 0, .int .u8 0, .int .u8 0, .int .u8 0, .int .u8 0, .int .u8 0, .int .u8 0, .int .u8 0, .int .u8 0, .int .u8 0, .int .u8 0, .int .u8 0, .int .u8 0, .int .u8 0, .int .u8 0, .int .u8 0, .int .u8 0, .int .u8 0] := rfl
theorem capV_length (a b : Int) {pad : List UInt8} (h : pad.length = 32) : (capV a b pad).length = 34 := by simp [capV, h]
theorem oneCell_cap (a b : Int) (pad : List UInt8) : ∀ v ∈ capV a b pad, v.oneCell' = true := by
  intro v hv
  unfold capV at hv
  rw [List.mem_cons, List.mem_cons] at hv
  rcases hv with rfl | rfl | hv
  · rfl
  · rfl
  · exact oneCell_bytes _ v hv

set_option maxRecDepth 20000 in
theorem turn_ok (n a b : Nat) (pad : List UInt8) (hp : pad.length = 32) (hn0 : 0 < n) (hn : n < Chart.Q) (ha : Grp a) (hb : Grp b) (w : World) :
    Calls Tryz.prog 13 #[.int .i64 n, .agg (capV a b pad).toArray] w fun e w' =>
      e = .returned (.tuple #[.agg (capV ((a ^ n % PP : Nat) : Int) b pad).toArray, .int .i64 0]) ∧ Below w.heap.size w w' := by
  have hmf : ∀ (fn : Fn) (first cap : Array Value) (w : World), (Instr.makeFunc fn first cap).run Tryz.prog w = .ok (.func fn first cap) w := fun _ _ _ _ => rfl
  have hQ := Q_eq
  have C1 := Lib.hid (isPrivate_ok (n : Int) (by omega) (by omega))
  have C2 := Lib.hid (pcheck_ok a b pad ha hb)
  have C3 := Lib.hid (gexp_ok a n ha hn)
  obtain ⟨r, hr⟩ : ∃ r, r = a ^ n % PP := ⟨_, rfl⟩
  rw [← hr] at C3 ⊢
  obtain ⟨c, hc⟩ : ∃ c, c = capV (a : Int) (b : Int) pad := ⟨_, rfl⟩
  have hcl : c.length = 34 := by rw [hc]; exact capV_length _ _ hp
  rw [← hc] at C2 ⊢
  obtain ⟨w1, hw1⟩ : ∃ x, x = w.alloc (.cells c.toArray 25) := ⟨_, rfl⟩
  obtain ⟨w2, hw2⟩ : ∃ x, x = w1.alloc (.cells #[.int .i64 0, .int .i64 0, .int .u8 0, .int .u8 0, .int .u8 0, .int .u8 0, .int .u8 0, .int .u8 0, .int .u8 0, .int .u8 0, .int .u8 0, .int .u8 0, .int .u8 0, .int .u8 0, .int .u8 0, .int .u8 0, .int .u8 0, .int .u8 0, .int .u8 0, .int .u8 0, .int .u8 0, .int .u8 0, .int .u8 0, .int .u8 0, .int .u8 0, .int .u8 0, .int .u8 0, .int .u8 0, .int .u8 0, .int .u8 0, .int .u8 0, .int .u8 0, .int .u8 0, .int .u8 0] 25) := ⟨_, rfl⟩
  obtain ⟨w3, hw3⟩ : ∃ x, x = w2.alloc (.cells #[.int .i64 0] 27) := ⟨_, rfl⟩
  have s1 : w1.heap.size = w.heap.size + 1 := by rw [hw1]; simp
  have s2 : w2.heap.size = w.heap.size + 1 + 1 := by rw [hw2]; simp [s1]
  have r1 : RowIs w3 w.heap.size 25 c := by
    rw [hw3, hw2]
    refine RowIs.alloc (RowIs.alloc ?_ _) _
    rw [hw1]; exact RowIs.new w c _
  have r2 : RowIs w3 (w.heap.size + 1) 25 zeroCap := by
    rw [hw3]
    refine RowIs.alloc ?_ _
    rw [hw2, ← s1, zeroCap_eq]; exact RowIs.new w1 _ _
  have r3 : RowIs w3 (w.heap.size + 1 + 1) 27 [.int .i64 0] := by
    rw [hw3, ← s2]; exact RowIs.new w2 [.int .i64 0] _
  have hB : Below w.heap.size w w3 := by
    rw [hw3, hw2, hw1]
    exact (((Below.refl _ w).alloc (Nat.le_refl _) _).alloc (by simp) _).alloc (by simp; omega) _
  have E1 := r1.loads (P := Tryz.prog) 34 hcl
  have HH := Lib.hid (And.intro r1 (And.intro r2 (And.intro r3 (And.intro hB (And.intro hc hr)))))
  clear r1 r2 r3 hB hc hr s1 s2 hQ hn0 hn ha hb
  go_enter_defers Tryz.func13, Tryz.ntmps13
  go_upto_region 1 with fail
  rw [← hw1, ← hw2, ← hw3]
  clear hw1 hw2 hw3
  go_wp2_with fail
  refine (C1.out _).mono ?_
  rintro e w4 ⟨rfl, rfl⟩
  go_wp2_with fail
  refine (demand_ok _ _).mono ?_
  rintro e w4 ⟨rfl, rfl⟩
  go_wp2_with fail
  refine (C2.out _).mono ?_
  rintro e w4 ⟨rfl, hB4⟩
  go_wp2_with fail
  refine (demand_ok _ _).mono ?_
  rintro e w5 ⟨rfl, rfl⟩
  have h1 := HH.out.1.below hB4 HH.out.1.lt
  have h2 := HH.out.2.1.below hB4 HH.out.2.1.lt
  have h3 := HH.out.2.2.1.below hB4 HH.out.2.2.1.lt
  have hB := HH.out.2.2.2.1.trans (hB4.mono HH.out.2.2.2.1.size)
  have c0 := (h1.cell 0).trans (show _ = some (Value.int .i64 (a : Int)) by rw [HH.out.2.2.2.2.1]; rfl)
  have H4 := Lib.hid (And.intro h1 (And.intro h2 (And.intro h3 hB)))
  clear h1 h2 h3 hB hB4 E1
  go_wp2_with fail
  refine (C3.out _).mono ?_
  rintro e w5 ⟨rfl, hB5⟩
  go_wp2_with fail
  refine (must_ok _ _).mono ?_
  rintro e w6 ⟨rfl, rfl⟩
  have h1 := H4.out.1.below hB5 H4.out.1.lt
  have h2 := H4.out.2.1.below hB5 H4.out.2.1.lt
  have h3 := H4.out.2.2.1.below hB5 H4.out.2.2.1.lt
  have hB := H4.out.2.2.2.trans (hB5.mono H4.out.2.2.2.size)
  have c0 := (h1.cell 0).trans (show _ = some (Value.int .i64 (a : Int)) by rw [HH.out.2.2.2.2.1]; rfl)
  have f0 := h1.frozen 0
  have h1' := h1.set 0 (.int .i64 (r : Int))
  rw [HH.out.2.2.2.2.1] at h1'
  have hcs : (capV (a : Int) (b : Int) pad).set 0 (.int .i64 (r : Int)) = capV (r : Int) (b : Int) pad := rfl
  rw [hcs] at h1'
  obtain ⟨d, hd⟩ : ∃ d, d = capV (r : Int) (b : Int) pad := ⟨_, rfl⟩
  have hdl : d.length = 34 := by rw [hd]; exact capV_length _ _ hp
  have hd1 : ∀ v ∈ d, v.oneCell' = true := by rw [hd]; exact oneCell_cap _ _ _
  rw [← hd] at h1'
  have Hd := Lib.hid hd
  have hne : w.heap.size + 1 ≠ w.heap.size := by omega
  have hne2 : w.heap.size + 1 + 1 ≠ w.heap.size := by omega
  have h2' := h2.apart (Apart.setCell w5 w.heap.size 0 (.int .i64 (r : Int))) hne
  have h3' := h3.apart (Apart.setCell w5 w.heap.size 0 (.int .i64 (r : Int))) hne2
  have hB' := below_setCell hB (Nat.le_refl _) 0 (.int .i64 (r : Int))
  have H5 := Lib.hid (And.intro h1' (And.intro h2' (And.intro h3' hB')))
  clear h1 h2 h3 hB h1' h2' h3' hB' hcs hd
  go_upto_region 5 with fail
  obtain ⟨w7, hw7⟩ : ∃ x, x = w5.setCell ⟨w.heap.size, 0, none⟩ (.int .i64 (r : Int)) := ⟨_, rfl⟩
  rw [← hw7] at H5 ⊢
  have E5 := H5.out.1.loads (P := Tryz.prog) 34 hdl
  have E6 := H5.out.2.1.stores (P := Tryz.prog) d (by rw [hdl]; rfl) hd1
  obtain ⟨w8, hw8⟩ : ∃ x, x = w7.setRow (w.heap.size + 1) d.toArray := ⟨_, rfl⟩
  rw [← hw8] at E6
  have h2 : RowIs w8 (w.heap.size + 1) 25 d := by rw [hw8]; exact H5.out.2.1.setRow _
  have h3 : RowIs w8 (w.heap.size + 1 + 1) 27 [.int .i64 0] := by
    rw [hw8]; exact (heap_setRow_other _ _ _ _ (by omega)).trans H5.out.2.2.1
  have hB : Below w.heap.size w w8 := by rw [hw8]; exact below_setRow H5.out.2.2.2 (by omega) _
  have c8 := (h3.cell 0).trans (show _ = some (Value.int .i64 0) from rfl)
  have f8 := h3.frozen 0
  have H8 := Lib.hid (And.intro h2 (And.intro h3 hB))
  clear h2 h3 hB hw7 hw8 c0 f0
  go_wp2_with fail
  refine leaves_cons (f := 42) (args := #[.pointer (some ⟨w.heap.size + 1 + 1, 0, none⟩)]) (by simp) (by simp [go_sem]) ?_
  refine (turn1_idle (w.heap.size + 1 + 1) _).mono ?_
  rintro e u' w9 ⟨rfl, rfl, rfl⟩
  have h2 := H8.out.1.apart (Apart.setCell w8 (w.heap.size + 1 + 1) 0 (.int .i64 0)) (by omega)
  refine ⟨.tuple #[.agg d.toArray, .int .i64 0], results_row_cell rfl _ _ (w.heap.size + 1) _ d.toArray (0, 0) _ rfl h2 Tryz.underlying25 rfl (by rw [List.size_toArray, hdl]; kernel_rfl) (w.heap.size + 1 + 1) 0 (.int .i64 0) rfl (isAgg_int .i64 (by kernel_rfl)) ((H8.out.2.1.set 0 _).cell 0), by rw [Hd.out], below_setCell H8.out.2.2 (by omega) _ _⟩

set_option maxRecDepth 20000 in
theorem turn_key (n a b : Int) (pad : List UInt8) (hp : pad.length = 32) (hn : NoKey n) (w : World) :
    Calls Tryz.prog 13 #[.int .i64 n, .agg (capV a b pad).toArray] w fun e w' =>
      e = .returned (.tuple #[.agg zeroCap.toArray, .int .i64 50]) ∧ Below w.heap.size w w' := by
  have hmf : ∀ (fn : Fn) (first cap : Array Value) (w : World), (Instr.makeFunc fn first cap).run Tryz.prog w = .ok (.func fn first cap) w := fun _ _ _ _ => rfl
  obtain ⟨c, hc⟩ : ∃ c, c = capV a b pad := ⟨_, rfl⟩
  have hcl : c.length = 34 := by rw [hc]; exact capV_length _ _ hp
  have C1 := Lib.hid (isPrivate_bad n hn)
  rw [← hc]
  obtain ⟨w1, hw1⟩ : ∃ x, x = w.alloc (.cells c.toArray 25) := ⟨_, rfl⟩
  obtain ⟨w2, hw2⟩ : ∃ x, x = w1.alloc (.cells #[.int .i64 0, .int .i64 0, .int .u8 0, .int .u8 0, .int .u8 0, .int .u8 0, .int .u8 0, .int .u8 0, .int .u8 0, .int .u8 0, .int .u8 0, .int .u8 0, .int .u8 0, .int .u8 0, .int .u8 0, .int .u8 0, .int .u8 0, .int .u8 0, .int .u8 0, .int .u8 0, .int .u8 0, .int .u8 0, .int .u8 0, .int .u8 0, .int .u8 0, .int .u8 0, .int .u8 0, .int .u8 0, .int .u8 0, .int .u8 0, .int .u8 0, .int .u8 0, .int .u8 0, .int .u8 0] 25) := ⟨_, rfl⟩
  obtain ⟨w3, hw3⟩ : ∃ x, x = w2.alloc (.cells #[.int .i64 0] 27) := ⟨_, rfl⟩
  have s1 : w1.heap.size = w.heap.size + 1 := by rw [hw1]; simp
  have s2 : w2.heap.size = w.heap.size + 1 + 1 := by rw [hw2]; simp [s1]
  have r1 : RowIs w3 w.heap.size 25 c := by
    rw [hw3, hw2]
    refine RowIs.alloc (RowIs.alloc ?_ _) _
    rw [hw1]; exact RowIs.new w c _
  have r2 : RowIs w3 (w.heap.size + 1) 25 zeroCap := by
    rw [hw3]
    refine RowIs.alloc ?_ _
    rw [hw2, ← s1, zeroCap_eq]; exact RowIs.new w1 _ _
  have r3 : RowIs w3 (w.heap.size + 1 + 1) 27 [.int .i64 0] := by
    rw [hw3, ← s2]; exact RowIs.new w2 [.int .i64 0] _
  have hB : Below w.heap.size w w3 := by
    rw [hw3, hw2, hw1]
    exact (((Below.refl _ w).alloc (Nat.le_refl _) _).alloc (by simp) _).alloc (by simp; omega) _
  have E1 := r1.loads (P := Tryz.prog) 34 hcl
  have HH := Lib.hid (And.intro r2 (And.intro r3 hB))
  have c0 := (r3.cell 0).trans (show _ = some (Value.int .i64 0) from rfl)
  have f0 := r3.frozen 0
  clear r1 r2 r3 hB hc s1 s2 E1 hn
  go_enter_defers Tryz.func13, Tryz.ntmps13
  go_upto_region 1 with fail
  rw [← hw1, ← hw2, ← hw3]
  clear hw1 hw2 hw3
  go_wp2_with fail
  refine (C1.out _).mono ?_
  rintro e w4 ⟨rfl, rfl⟩
  go_wp2_with fail
  refine (demand_bad _ _).mono ?_
  rintro e w4 ⟨rfl, rfl⟩
  go_wp2_with fail
  refine leaves_cons (f := 42) (args := #[.pointer (some ⟨w.heap.size + 1 + 1, 0, none⟩)]) (by simp) (by simp [go_sem]) ?_
  refine (turn1_fail 50 0 (w.heap.size + 1 + 1) [] _ c0 f0).mono ?_
  rintro e u' w9 ⟨rfl, rfl, rfl⟩
  have h2 := (HH.out.1.apart (Apart.setCell w3 (w.heap.size + 1 + 1) 0 (.int .i64 50)) (by omega)).alloc (.cells #[.int .i64 50] 53)
  refine ⟨.tuple #[.agg zeroCap.toArray, .int .i64 50], results_row_cell rfl _ _ (w.heap.size + 1) _ zeroCap.toArray (0, 0) _ rfl h2 Tryz.underlying25 rfl (by kernel_rfl) (w.heap.size + 1 + 1) 0 (.int .i64 50) rfl (isAgg_int .i64 (by kernel_rfl)) (((HH.out.2.1.set 0 _).alloc _).cell 0), rfl, (below_setCell HH.out.2.2 (by omega) _ _).alloc (by simpa using HH.out.2.2.size) _⟩

set_option maxRecDepth 20000 in
theorem turn_cap (n : Int) (h1 : 1 ≤ n) (h2 : n < 2305843009213688669) (a b : Int) (pad : List UInt8) (hp : pad.length = 32) (hn : ¬ (IsGrp a ∧ IsGrp b)) (w : World) :
    Calls Tryz.prog 13 #[.int .i64 n, .agg (capV a b pad).toArray] w fun e w' =>
      e = .returned (.tuple #[.agg zeroCap.toArray, .int .i64 110]) ∧ Below w.heap.size w w' := by
  have hmf : ∀ (fn : Fn) (first cap : Array Value) (w : World), (Instr.makeFunc fn first cap).run Tryz.prog w = .ok (.func fn first cap) w := fun _ _ _ _ => rfl
  obtain ⟨c, hc⟩ : ∃ c, c = capV a b pad := ⟨_, rfl⟩
  have hcl : c.length = 34 := by rw [hc]; exact capV_length _ _ hp
  have C1 := Lib.hid (isPrivate_ok n h1 h2)
  have C2 := Lib.hid (pcheck_bad a b pad hn)
  rw [← hc] at C2 ⊢
  obtain ⟨w1, hw1⟩ : ∃ x, x = w.alloc (.cells c.toArray 25) := ⟨_, rfl⟩
  obtain ⟨w2, hw2⟩ : ∃ x, x = w1.alloc (.cells #[.int .i64 0, .int .i64 0, .int .u8 0, .int .u8 0, .int .u8 0, .int .u8 0, .int .u8 0, .int .u8 0, .int .u8 0, .int .u8 0, .int .u8 0, .int .u8 0, .int .u8 0, .int .u8 0, .int .u8 0, .int .u8 0, .int .u8 0, .int .u8 0, .int .u8 0, .int .u8 0, .int .u8 0, .int .u8 0, .int .u8 0, .int .u8 0, .int .u8 0, .int .u8 0, .int .u8 0, .int .u8 0, .int .u8 0, .int .u8 0, .int .u8 0, .int .u8 0, .int .u8 0, .int .u8 0] 25) := ⟨_, rfl⟩
  obtain ⟨w3, hw3⟩ : ∃ x, x = w2.alloc (.cells #[.int .i64 0] 27) := ⟨_, rfl⟩
  have s1 : w1.heap.size = w.heap.size + 1 := by rw [hw1]; simp
  have s2 : w2.heap.size = w.heap.size + 1 + 1 := by rw [hw2]; simp [s1]
  have r1 : RowIs w3 w.heap.size 25 c := by
    rw [hw3, hw2]
    refine RowIs.alloc (RowIs.alloc ?_ _) _
    rw [hw1]; exact RowIs.new w c _
  have r2 : RowIs w3 (w.heap.size + 1) 25 zeroCap := by
    rw [hw3]
    refine RowIs.alloc ?_ _
    rw [hw2, ← s1, zeroCap_eq]; exact RowIs.new w1 _ _
  have r3 : RowIs w3 (w.heap.size + 1 + 1) 27 [.int .i64 0] := by
    rw [hw3, ← s2]; exact RowIs.new w2 [.int .i64 0] _
  have hB : Below w.heap.size w w3 := by
    rw [hw3, hw2, hw1]
    exact (((Below.refl _ w).alloc (Nat.le_refl _) _).alloc (by simp) _).alloc (by simp; omega) _
  have E1 := r1.loads (P := Tryz.prog) 34 hcl
  have HH := Lib.hid (And.intro r2 (And.intro r3 hB))
  have c0 := (r3.cell 0).trans (show _ = some (Value.int .i64 0) from rfl)
  have f0 := r3.frozen 0
  clear r1 r2 r3 hB hc s1 s2 hn h1 h2
  go_enter_defers Tryz.func13, Tryz.ntmps13
  go_upto_region 1 with fail
  rw [← hw1, ← hw2, ← hw3]
  clear hw1 hw2 hw3
  go_wp2_with fail
  refine (C1.out _).mono ?_
  rintro e w4 ⟨rfl, rfl⟩
  go_wp2_with fail
  refine (demand_ok _ _).mono ?_
  rintro e w4 ⟨rfl, rfl⟩
  go_wp2_with fail
  refine (C2.out _).mono ?_
  rintro e w4 ⟨rfl, hB4⟩
  go_wp2_with fail
  refine (demand_bad _ _).mono ?_
  rintro e w5 ⟨rfl, rfl⟩
  have H4 := Lib.hid (And.intro (HH.out.1.below hB4 HH.out.1.lt) (And.intro (HH.out.2.1.below hB4 HH.out.2.1.lt) (HH.out.2.2.trans (hB4.mono HH.out.2.2.size))))
  have c0 := (H4.out.2.1.cell 0).trans (show _ = some (Value.int .i64 0) from rfl)
  have f0 := H4.out.2.1.frozen 0
  clear hB4 E1
  go_wp2_with fail
  refine leaves_cons (f := 42) (args := #[.pointer (some ⟨w.heap.size + 1 + 1, 0, none⟩)]) (by simp) (by simp [go_sem]) ?_
  refine (turn1_fail 110 0 (w.heap.size + 1 + 1) [] _ c0 f0).mono ?_
  rintro e u' w9 ⟨rfl, rfl, rfl⟩
  have h2 := (H4.out.1.apart (Apart.setCell w4 (w.heap.size + 1 + 1) 0 (.int .i64 110)) (by omega)).alloc (.cells #[.int .i64 110] 53)
  refine ⟨.tuple #[.agg zeroCap.toArray, .int .i64 110], results_row_cell rfl _ _ (w.heap.size + 1) _ zeroCap.toArray (0, 0) _ rfl h2 Tryz.underlying25 rfl (by kernel_rfl) (w.heap.size + 1 + 1) 0 (.int .i64 110) rfl (isAgg_int .i64 (by kernel_rfl)) (((H4.out.2.1.set 0 _).alloc _).cell 0), rfl, (below_setCell H4.out.2.2 (by omega) _ _).alloc (by simpa using H4.out.2.2.size) _⟩
end Go.Proofs.YtejjincnghmbbaaGreatDoor

/- proxy.Open: its two closures. -/
namespace Go.Proofs.YtejjincnghmbbaaGreatDoor
open Go.RowKit

theorem PP_P : PP = Chart.P := rfl
theorem Grp.pow {a : Nat} (h : Grp a) (k : Nat) : Grp (a ^ k % PP) := Chart.elem_pow h k
theorem Grp.mul {a b : Nat} (h : Grp a) (g : Grp b) : Grp (a * b % PP) := Chart.elem_mul h g

set_option maxRecDepth 20000 in
set_option maxHeartbeats 4000000 in
theorem open2_any (x a : Nat) (hx0 : 0 < x) (hx : x < Chart.Q) (ha : Grp a) (bp bc : Nat) (Tp Tc : TypeId) (cs : List Value) (w : World) (hp : RowIs w bp Tp [.int .i64 x]) (hc : RowIs w bc Tc (.int .i64 (a : Int) :: cs)) :
    Calls Tryz.prog 33 #[.pointer (some ⟨bc, 0, none⟩), .pointer (some ⟨bp, 0, none⟩)] w fun e w' => e = .returned (.int .i64 ((a ^ Chart.finv x % PP : Nat) : Int)) ∧ Below w.heap.size w w' := by
  have C1 := Lib.hid (finv_any x hx0 hx)
  have C2 := Lib.hid (gexp_ok a (Chart.finv x) ha (Chart.finv_lt x))
  obtain ⟨i, hi⟩ : ∃ i, i = Chart.finv x := ⟨_, rfl⟩
  rw [← hi] at C1 C2 ⊢
  obtain ⟨r, hr⟩ : ∃ r, r = a ^ i % PP := ⟨_, rfl⟩
  rw [← hr] at C2 ⊢
  have c0 := (hc.cell 0).trans (show _ = some (Value.int .i64 (a : Int)) from rfl)
  have p0 := (hp.cell 0).trans (show _ = some (Value.int .i64 (x : Int)) from rfl)
  have HH := Lib.hid (And.intro hp hc)
  clear hi hr hx0 hx ha hp hc
  go_enter Tryz.func33, Tryz.ntmps33
  go_upto_region 1 with fail
  go_region_with
    (first
      | (go_at_call 34
         refine (C1.out w.drew).mono ?_
         rintro e w1 ⟨rfl, hB1⟩
         have hB1 : Below w.heap.size w w1 := (drew_below w).trans hB1
         have c01 := ((bcell hB1).1 bc 0 HH.out.2.lt).trans c0
         have H1 := Lib.hid hB1
         clear hB1)
      | (go_at_call 19
         refine (must_ok _ _).mono ?_
         rintro e w2 ⟨rfl, rfl⟩)
      | (go_at_call 20
         refine (C2.out _).mono ?_
         rintro e w3 ⟨rfl, hB3⟩
         have H3 := Lib.hid (H1.out.trans (hB3.mono H1.out.size))
         clear hB3))
  all_goals
    go_wp2_with fail
    go_ret
    exact ⟨rfl, H3.out⟩

set_option maxRecDepth 20000 in
set_option maxHeartbeats 4000000 in
theorem open3_any (z b : Nat) (hz : Grp z) (hb : Grp b) (bc : Nat) (Tc : TypeId) (v : Value) (cs : List Value) (w : World) (hc : RowIs w bc Tc (v :: .int .i64 (b : Int) :: cs)) :
    Calls Tryz.prog 35 #[.int .i64 z, .pointer (some ⟨bc, 0, none⟩)] w fun e w' => e = .returned (.int .i64 ((b * (z ^ (Chart.Q - 1) % PP) % PP : Nat) : Int)) ∧ Below w.heap.size w w' := by
  have C1 := Lib.hid (ginv_ok z hz)
  have C2 := Lib.hid (gmul_ok b (z ^ (Chart.Q - 1) % PP) hb (hz.pow _))
  obtain ⟨i, hi⟩ : ∃ i, i = z ^ (Chart.Q - 1) % PP := ⟨_, rfl⟩
  rw [← hi] at C1 C2 ⊢
  obtain ⟨r, hr⟩ : ∃ r, r = b * i % PP := ⟨_, rfl⟩
  rw [← hr] at C2 ⊢
  have c0 := (hc.cell 1).trans (show _ = some (Value.int .i64 (b : Int)) from rfl)
  have HH := Lib.hid hc
  clear hi hr hz hb hc
  go_enter Tryz.func35, Tryz.ntmps35
  go_upto_region 1 with fail
  go_region_with
    (first
      | (go_at_call 36
         refine (C1.out w.drew).mono ?_
         rintro e w1 ⟨rfl, hB1⟩
         have hB1 : Below w.heap.size w w1 := (drew_below w).trans hB1
         have c01 := ((bcell hB1).1 bc 1 HH.out.lt).trans c0
         have H1 := Lib.hid hB1
         clear hB1)
      | (go_at_call 19
         refine (must_ok _ _).mono ?_
         rintro e w2 ⟨rfl, rfl⟩)
      | (go_at_call 22
         refine (C2.out _).mono ?_
         rintro e w3 ⟨rfl, hB3⟩
         have H3 := Lib.hid (H1.out.trans (hB3.mono H1.out.size))
         clear hB3))
  all_goals
    go_wp2_with fail
    go_ret
    exact ⟨rfl, H3.out⟩
end Go.Proofs.YtejjincnghmbbaaGreatDoor
