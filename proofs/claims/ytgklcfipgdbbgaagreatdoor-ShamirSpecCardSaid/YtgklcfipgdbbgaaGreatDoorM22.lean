/- shamir.Split. -/
import Derived.Test.YtgklcfipgdbbgaaGreatDoorM15
import Derived.Test.YtgklcfipgdbbgaaGreatDoorM21
namespace Go.Proofs.YtgklcfipgdbbgaaGreatDoor
open Go.RowKit
attribute [-go_sem] Builtin.append_

def share_ : ByteArray := ⟨#[115, 104, 97, 114, 101]⟩
/-- The i-th coefficient that a seed gives. -/
def cfN (k : List UInt8) (i : Nat) : Nat := dscalar (expand1 k derive_.data.toList share_ (i : Int)) share_
theorem cfN_lt (k : List UInt8) (i : Nat) : cfN k i < Chart.Q := by rw [Q_eq]; exact scalarOf_lt _ _
def cf (k : List UInt8) (i : Nat) : Chart.F := Chart.fx (cfN k i)
theorem cf_val (k : List UInt8) (i : Nat) : (cf k i).val = cfN k i := Chart.fx_val (cfN_lt k i)
/-- The polynomial of Split. -/
def coefs (s : Chart.F) (k : List UInt8) (need : Nat) : List Chart.F := s :: (List.range' 1 (need - 1)).map (cf k)
theorem coefs_length (s : Chart.F) (k : List UInt8) {need : Nat} (h : 1 ≤ need) : (coefs s k need).length = need := by
  unfold coefs
  rw [List.length_cons, List.length_map, List.length_range']
  omega
theorem coefs_succ (s : Chart.F) (k : List UInt8) {t : Nat} (h : 1 ≤ t) : coefs s k (t + 1) = coefs s k t ++ [cf k t] := by
  obtain ⟨n, rfl⟩ : ∃ n, t = n + 1 := ⟨t - 1, by omega⟩
  unfold coefs
  show s :: (List.range' 1 (n + 1)).map (cf k) = s :: (List.range' 1 n).map (cf k) ++ [cf k (n + 1)]
  rw [List.range'_concat, List.map_append, Nat.one_mul, Nat.add_comm 1 n]
  rfl
theorem nums_append (l m : List Chart.F) : nums (l ++ m) = nums l ++ nums m := List.map_append ..

theorem split_arg (x need many : Int) (h : outB x = true) (k : List UInt8) (w : World) :
    Calls Tryz.prog 6 #[.int .i64 x, .int .i64 need, .int .i64 many, .agg (k.map u8v).toArray] w fun e w' => e = noS 1 ∧ Below w.heap.size w w' := by
  obtain ⟨d, hd⟩ : ∃ d, d = k.map u8v := ⟨_, rfl⟩
  rw [← hd]
  obtain ⟨w1, hw1⟩ : ∃ w1, w1 = w.alloc (.cells d.toArray 24) := ⟨_, rfl⟩
  have hB1 : Below w.heap.size w w1 := by rw [hw1]; exact (Below.refl _ _).alloc (Nat.le_refl _) _
  have C := Lib.hid (isScalar_any x w1)
  rw [h] at C
  have H := Lib.hid hB1
  clear hB1 hd h
  go_enter Tryz.func6, Tryz.ntmps6
  go_upto_region 1 with fail
  rw [← hw1]
  clear hw1
  go_wp2_with fail
  refine C.out.mono ?_
  rintro e w2 ⟨rfl, hB2⟩
  have H2 := Lib.hid (H.out.trans (hB2.mono H.out.size))
  clear hB2
  go_wp2_with fail
  go_ret2
  exact ⟨rfl, H2.out⟩

theorem split_bad (x need many : Int) (h : outB x = false) (hb : need < 1 ∨ many < need ∨ 64 < many) (k : List UInt8) (w : World) :
    Calls Tryz.prog 6 #[.int .i64 x, .int .i64 need, .int .i64 many, .agg (k.map u8v).toArray] w fun e w' => e = noS 80 ∧ Below w.heap.size w w' := by
  obtain ⟨d, hd⟩ : ∃ d, d = k.map u8v := ⟨_, rfl⟩
  rw [← hd]
  obtain ⟨w1, hw1⟩ : ∃ w1, w1 = w.alloc (.cells d.toArray 24) := ⟨_, rfl⟩
  have hB1 : Below w.heap.size w w1 := by rw [hw1]; exact (Below.refl _ _).alloc (Nat.le_refl _) _
  have C := Lib.hid (isScalar_any x w1)
  rw [h] at C
  have H := Lib.hid hB1
  have hcase : need < 1 ∨ (¬ need < 1 ∧ many < need) ∨ (¬ need < 1 ∧ ¬ many < need ∧ 64 < many) := by omega
  clear hB1 hd h hb
  rcases hcase with b1 | ⟨b1, b2⟩ | ⟨b1, b2, b3⟩
  all_goals
    go_enter Tryz.func6, Tryz.ntmps6
    go_upto_region 1 with fail
    rw [← hw1]
    clear hw1
    go_wp2_with fail
    refine C.out.mono ?_
    rintro e w2 ⟨rfl, hB2⟩
    have H2 := Lib.hid (H.out.trans (hB2.mono H.out.size))
    clear hB2
    go_wp2_with fail
    go_ret2
    exact ⟨rfl, H2.out⟩

set_option maxRecDepth 20000 in
set_option maxHeartbeats 2000000 in
theorem split_ok (s : Chart.F) (need many : Nat) (n1 : 1 ≤ need) (n2 : need ≤ many) (n3 : many ≤ 64) (k : List UInt8) (hk : k.length = 32) (w : World) (hl : Laid w) :
    Calls Tryz.prog 6 #[fv s, .int .i64 (need : Nat), .int .i64 (many : Nat), .agg (k.map u8v).toArray] w fun e w' => ∃ u, e = .returned (.tuple #[u, .int .i64 0]) ∧ OwnS w.heap.size w' u (Chart.raw (Chart.splitS (coefs s k need) many)) ∧ Below w.heap.size w w' := by
  obtain ⟨d, hd⟩ : ∃ d, d = k.map u8v := ⟨_, rfl⟩
  rw [← hd]
  have hdl : d.length = 32 := by rw [hd, List.length_map, hk]
  obtain ⟨w1, hw1⟩ : ∃ w1, w1 = w.alloc (.cells d.toArray 24) := ⟨_, rfl⟩
  have hB1 : Below w.heap.size w w1 := by rw [hw1]; exact (Below.refl _ _).alloc (Nat.le_refl _) _
  have hR1 : RowIs w1 w.heap.size 24 d := by rw [hw1]; exact RowIs.new w d _
  have C := Lib.hid (isScalar_any (s.val : Int) w1)
  rw [outB_nat s.isLt] at C
  obtain ⟨N, hN⟩ : ∃ N : Int, N = (need : Nat) := ⟨_, rfl⟩
  obtain ⟨M, hM⟩ : ∃ M : Int, M = (many : Nat) := ⟨_, rfl⟩
  rw [← hN, ← hM]
  have b1 : ¬ N < 1 := by omega
  have b2 : ¬ M < N := by omega
  have b3 : ¬ 64 < M := by omega
  have HN := Lib.hid (And.intro hN hM)
  clear hN hM
  have H := Lib.hid (And.intro hB1 (And.intro hR1 (And.intro hd (hl.below hB1 hl.numLt hl.startLt))))
  clear hB1 hd hR1 hl
  go_enter Tryz.func6, Tryz.ntmps6
  go_upto_region 1 with fail
  rw [← hw1]
  clear hw1
  go_wp2_with fail
  refine C.out.mono ?_
  rintro e w2 ⟨rfl, hB2⟩
  have H2 := Lib.hid (And.intro (H.out.1.trans (hB2.mono H.out.1.size)) (And.intro (H.out.2.1.below hB2 H.out.2.1.lt) (H.out.2.2.2.below hB2 H.out.2.2.2.numLt H.out.2.2.2.startLt)))
  clear hB2 C
  go_wp2_with fail
  go_loopw [10, 11] (fun c i wr => ∃ t : Nat, 1 ≤ t ∧ t ≤ need ∧ i = .int .i64 t ∧ Hid (Below w2.heap.size w2 wr ∧ OwnI w2.heap.size wr c (nums (coefs s k t)))) (fun _ i _ => need - (intOf i).toNat)
  case atStart =>
    refine ⟨1, Nat.le_refl _, n1, rfl, Lib.hid ⟨(Below.refl _ _).alloc (Nat.le_refl _) _, ?_⟩⟩
    exact World.ownsRow_lit w2 #[fv s] 1 (Nat.le_refl _) (by unfold maxLen; omega) rfl
  case round =>
    obtain ⟨t, ht1, ht, rfl, hB⟩ := hrel
    by_cases hlt : t < need
    · have ht64 : (t : Int) ≤ 64 := by omega
      have htN : (t : Int) < N := by have := HN.out.1; omega
      have hL := (H2.out.2.1.below hB.out.1 H2.out.2.1.lt).loads (P := Tryz.prog) 32 hdl
      obtain ⟨w3, hw3⟩ : ∃ w3, w3 = wr.alloc (.cells #[.int .i64 (t : Nat)] 3) := ⟨_, rfl⟩
      have hB3 : Below wr.heap.size wr w3 := by rw [hw3]; exact (Below.refl _ _).alloc (Nat.le_refl _) _
      have hcell : w3.cell? ⟨wr.heap.size, 0, none⟩ = some (.int .i64 (t : Nat)) := by rw [hw3, cell_new]; rfl
      have hB23 := hB.out.1.trans (hB3.mono hB.out.1.size)
      have hl3 := H2.out.2.2.below hB23 H2.out.2.2.numLt H2.out.2.2.startLt
      have C1 := expand_one k hk share_ (by decide) (t : Int) (by omega) wr.heap.size w3 hl3 hcell
      rw [← H.out.2.2.1] at C1
      have hxl : (expand1 k derive_.data.toList share_ (t : Int)).length = 32 := expand1_length _ _ _ _
      have C2 := fun w4 (hl4 : Laid w4) => dscalar_any (expand1 k derive_.data.toList share_ (t : Int)) hxl share_ (by decide) w4 hl4
      have hcs := coefs_succ s k ht1
      obtain ⟨cv, hcv⟩ : ∃ cv, cv = dscalar (expand1 k derive_.data.toList share_ (t : Int)) share_ := ⟨_, rfl⟩
      have hcf : ((cf k t).val : Int) = (cv : Int) := by rw [cf_val, cfN, ← hcv]
      rw [← hcv] at C2
      have hnx : nums (coefs s k (t + 1)) = nums (coefs s k t) ++ [(cv : Int)] := by rw [hcs, nums_append, ← hcf]; rfl
      have hnl : (nums (coefs s k t)).length ≤ 64 := by rw [nums_length, coefs_length s k ht1]; omega
      obtain ⟨x1, hx1⟩ : ∃ x1, x1 = bytesV (expand1 k derive_.data.toList share_ (t : Int)) := ⟨_, rfl⟩
      have hx1' : (expand1 k derive_.data.toList share_ (t : Int)).map u8v = x1 := hx1.symm
      rw [← hx1] at C1
      rw [hx1'] at C2
      replace C1 := Lib.hid C1
      replace C2 := Lib.hid C2
      have HH := Lib.hid (And.intro hB23 (And.intro hl3 (And.intro hnx (And.intro hnl (hB.out.2.below hB3 (Nat.le_refl _))))))
      rw [hw3] at C1
      have Hw3 := Lib.hid hw3
      clear hB3 hcell hB23 hl3 hcs hcf hcv hnx hnl hx1 hx1' hxl hw3
      go_wp2_with fail
      refine C1.out.mono ?_
      rintro e w4 ⟨rfl, hB4⟩
      rw [← Hw3.out] at hB4
      have hB24 := HH.out.1.trans (hB4.mono HH.out.1.size)
      have C3 := Lib.hid (C2.out w4 (HH.out.2.1.below hB4 HH.out.2.1.numLt HH.out.2.1.startLt))
      have hO4 := HH.out.2.2.2.2.below hB4 (Nat.le_refl _)
      have H4 := Lib.hid (And.intro hB24 hO4)
      clear hB24 hO4 hB4
      go_wp2_with fail
      refine C3.out.mono ?_
      rintro e w5 ⟨rfl, hB5⟩
      have hB25 := H4.out.1.trans (hB5.mono H4.out.1.size)
      have hO5 := H4.out.2.below hB5 (Nat.le_refl _)
      obtain ⟨v6, w6, E6, hO6, hG6⟩ := append_int hO5 hB25.size (by have := HH.out.2.2.2.1; omega) (cv : Int) 3
      have H6 := Lib.hid (And.intro (hB25.trans (hG6.belowI hO5 hB25.size)) hO6)
      clear hB5 hB25 hO5 hO6 hG6
      go_wp2_with fail
      go_roundw
      case rel => exact ⟨t + 1, by omega, by omega, by go_num, Lib.hid ⟨H6.out.1, by rw [HH.out.2.2.1]; exact H6.out.2⟩⟩
      case measure => simp [intOf] <;> omega
    · obtain rfl : t = need := by omega
      obtain ⟨a, cap, rfl, hc, hx⟩ := hB.out.2.view.shape
      have hcl : (nums (coefs s k t)).length = t := by rw [nums_length, coefs_length s k ht1]
      obtain ⟨g, off, rfl, hg, hci⟩ := hx (by intro h0; rw [h0] at hcl; simp at hcl; omega)
      rw [hcl]
      have HC := Lib.hid (And.intro hci hg)
      have CE := Lib.hid (fun (x : Chart.F) w3 (hb : Below wr.heap.size wr w3) => eval_any (coefs s k t) x g off cap (by rw [coefs_length s k ht1]; omega) w3 (fun i hi => by rw [(bcell hb).1 g _ HC.out.2]; exact HC.out.1 i hi) (Nat.lt_of_lt_of_le HC.out.2 hb.size))
      rw [coefs_length s k ht1] at CE
      obtain ⟨cs, hcs⟩ : ∃ cs, cs = coefs s k t := ⟨_, rfl⟩
      rw [← hcs] at CE
      have Hcs := Lib.hid hcs
      have HW := Lib.hid (And.intro hB.out.1 (And.intro H.out.1 H2.out.1))
      have htN : ¬ (t : Int) < N := by have := HN.out.1; omega
      clear hB hci hg hcl hx hc HC hcs H2 H
      go_wp2_with fail
      go_loopw [8, 12] (fun u i wq => ∃ q : Nat, q ≤ many ∧ i = .int .i64 ((q + 1 : Nat) : Int) ∧ Hid (Below wr.heap.size wr wq ∧ OwnS wr.heap.size wq u (Chart.raw (Chart.splitS cs q)))) (fun _ i _ => many + 1 - (intOf i).toNat)
      case atStart => exact ⟨0, Nat.zero_le _, rfl, Lib.hid ⟨Below.refl _ _, OwnS.nil _ _⟩⟩
      case round =>
        obtain ⟨q, hq, rfl, hQ⟩ := hrel
        by_cases hql : q < many
        · have hfx : ((Chart.fx (q + 1)).val : Int) = ((q + 1 : Nat) : Int) := by rw [Chart.fx_val (by rw [Q_eq]; omega)]
          have C1 := CE.out (Chart.fx (q + 1)) _ hQ.out.1
          have hsp : Chart.raw (Chart.splitS cs (q + 1)) = Chart.raw (Chart.splitS cs q) ++ [(((q + 1 : Nat) : Int), ((Chart.ev cs (Chart.fx (q + 1))).val : Int))] := by
            rw [Chart.splitS_succ, Chart.raw_append]
            show _ ++ [Chart.rawOf _] = _
            unfold Chart.rawOf
            rw [hfx]
          have hsl : (Chart.raw (Chart.splitS cs q)).length ≤ 64 := by rw [Chart.raw_length, Chart.splitS_length]; omega
          rw [fv, hfx] at C1
          obtain ⟨y, hy⟩ : ∃ y, y = (Chart.ev cs (Chart.fx (q + 1))).val := ⟨_, rfl⟩
          rw [← hy] at C1 hsp
          obtain ⟨z, hz⟩ : ∃ z : Int, z = ((q + 1 : Nat) : Int) := ⟨_, rfl⟩
          rw [← hz] at C1 hsp ⊢
          have hz1 : z ≤ M := by have := HN.out.2; omega
          have hz0 : 1 ≤ z := by omega
          have hz64 : z ≤ 64 := by omega
          have hz2 : (q : Int) + 1 = z := by omega
          have HZ := Lib.hid (And.intro hz (And.intro hsp hsl))
          replace C1 := Lib.hid C1
          clear hfx hsp hsl hy hz hz2
          go_wp2_with fail
          refine C1.out.mono ?_
          rintro e w4 ⟨rfl, hB4⟩
          have hB24 := hQ.out.1.trans (hB4.mono hQ.out.1.size)
          have hO4 := hQ.out.2.below hB4 (Nat.le_refl _)
          obtain ⟨v6, w6, E6, hO6, hG6⟩ := append_share hO4 hB24.size (by have := HZ.out.2.2; omega) z (y : Int) 36
          have H6 := Lib.hid (And.intro (hB24.trans (hG6.belowS hO4 hB24.size)) hO6)
          clear hB24 hO4 hB4 hO6 hG6
          go_wp2_with fail
          have hzq : z = (q : Int) + 1 := by have := HZ.out.1; omega
          go_roundw
          case rel => exact ⟨q + 1, by omega, by rw [hzq]; go_num, Lib.hid ⟨H6.out.1, by rw [HZ.out.2.1]; exact H6.out.2⟩⟩
          case measure => simp [intOf] <;> omega
        · obtain rfl : q = many := by omega
          have hqM : ¬ ((q + 1 : Nat) : Int) ≤ M := by have := HN.out.2; omega
          go_wp2_with fail
          go_ret2
          have hwr := HW.out.2.2.trans (HW.out.1.mono HW.out.2.2.size)
          refine ⟨_, rfl, ?_, hwr.trans (hQ.out.1.mono hwr.size)⟩
          rw [← Hcs.out]
          exact hQ.out.2.mono hwr.size
end Go.Proofs.YtgklcfipgdbbgaaGreatDoor
