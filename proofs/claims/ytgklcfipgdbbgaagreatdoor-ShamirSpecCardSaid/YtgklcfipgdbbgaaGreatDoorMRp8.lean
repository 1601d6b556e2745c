/- chartroomref08.Coefficients, Split, Join. -/
import Derived.Test.YtgklcfipgdbbgaaGreatDoorMRe3
import Derived.Test.YtgklcfipgdbbgaaGreatDoorMRf7n
import Derived.Test.YtgklcfipgdbbgaaGreatDoorM22
import Derived.Test.YtgklcfipgdbbgaaGreatDoorM28
namespace Go.Proofs.YtgklcfipgdbbgaaGreatDoor
open Go.RowKit
attribute [-go_sem] Builtin.append_

set_option maxRecDepth 20000 in
set_option maxHeartbeats 2000000 in
theorem rcoefs_ok (s : Chart.F) (need : Nat) (n1 : 1 ≤ need) (n3 : need ≤ 64) (k : List UInt8) (hk : k.length = 32) (w : World) :
    Calls Tryz.prog 20 #[fv s, .int .i64 (need : Nat), .agg (k.map u8v).toArray] w fun e w' => ∃ u, e = .returned u ∧ OwnI w.heap.size w' u (nums (coefs s k need)) ∧ Below w.heap.size w w' := by
  obtain ⟨d, hd⟩ : ∃ d, d = k.map u8v := ⟨_, rfl⟩
  rw [← hd]
  have hdl : d.length = 32 := by rw [hd, List.length_map, hk]
  obtain ⟨w2, hw1⟩ : ∃ w1, w1 = w.alloc (.cells d.toArray 24) := ⟨_, rfl⟩
  have hB1 : Below w.heap.size w w2 := by rw [hw1]; exact (Below.refl _ _).alloc (Nat.le_refl _) _
  have hR1 : RowIs w2 w.heap.size 24 d := by rw [hw1]; exact RowIs.new w d _
  obtain ⟨N, hN⟩ : ∃ N : Int, N = (need : Nat) := ⟨_, rfl⟩
  rw [← hN]
  have HN := Lib.hid (And.intro hN trivial)
  have H := Lib.hid (And.intro hB1 hd)
  have H2 := Lib.hid (And.intro hB1 (And.intro hR1 trivial))
  clear hN hB1 hR1 hd
  go_enter Tryz.func20, Tryz.ntmps20
  go_upto_region 1 with fail
  rw [← hw1]
  clear hw1
  go_wp2_with fail
  go_loopw [7, 8] (fun c i wr => ∃ t : Nat, 1 ≤ t ∧ t ≤ need ∧ i = .int .i64 t ∧ Hid (Below w2.heap.size w2 wr ∧ OwnI w2.heap.size wr c (nums (coefs s k t)))) (fun _ i _ => need - (intOf i).toNat)
  case atStart =>
    refine ⟨1, Nat.le_refl _, n1, rfl, Lib.hid ⟨(Below.refl _ _).alloc (Nat.le_refl _) _, ?_⟩⟩
    exact World.ownsRow_lit w2 #[fv s] 1 (Nat.le_refl _) (by unfold maxLen; omega) rfl
  case round =>
    obtain ⟨t, ht1, ht, rfl, hB⟩ := hrel
    by_cases hlt : t < need
    · have ht64 : (t : Int) ≤ 64 := by omega
      have htN : (t : Int) < N := by have := HN.out.1; omega
      have hL := (H2.out.2.1.below hB.out.1 H2.out.2.1.lt).loads (P := Tryz.prog) 32 hdl
      obtain ⟨w3, hw3⟩ : ∃ w3, w3 = wr.alloc (.cells #[.int .i64 (t : Nat)] 3) := ⟨_, rfl⟩
      have hB3 : Below wr.heap.size wr w3 := by rw [hw3]; exact (Below.refl _ _).alloc (Nat.le_refl _) _
      have hcell : w3.cell? ⟨wr.heap.size, 0, none⟩ = some (.int .i64 (t : Nat)) := by rw [hw3, cell_new]; rfl
      have hB23 := hB.out.1.trans (hB3.mono hB.out.1.size)
      have C1 := rexpand_one k hk share_ (by decide) (t : Int) (by omega) wr.heap.size w3 hcell
      rw [← H.out.2] at C1
      have hxl : (expand1 k derive_.data.toList share_ (t : Int)).length = 32 := expand1_length _ _ _ _
      have C2 := fun w4 => rscalar7_nil (expand1 k derive_.data.toList share_ (t : Int)) hxl share_ (by decide) w4
      have hcs := coefs_succ s k ht1
      obtain ⟨cv, hcv⟩ : ∃ cv, cv = dscalar (expand1 k derive_.data.toList share_ (t : Int)) share_ := ⟨_, rfl⟩
      have hcf : ((cf k t).val : Int) = (cv : Int) := by rw [cf_val, cfN, ← hcv]
      rw [← hcv] at C2
      have hnx : nums (coefs s k (t + 1)) = nums (coefs s k t) ++ [(cv : Int)] := by rw [hcs, nums_append, ← hcf]; rfl
      have hnl : (nums (coefs s k t)).length ≤ 64 := by rw [nums_length, coefs_length s k ht1]; omega
      obtain ⟨x1, hx1⟩ : ∃ x1, x1 = bytesV (expand1 k derive_.data.toList share_ (t : Int)) := ⟨_, rfl⟩
      have hx1' : (expand1 k derive_.data.toList share_ (t : Int)).map u8v = x1 := hx1.symm
      rw [← hx1] at C1
      rw [hx1'] at C2
      replace C1 := Lib.hid C1
      replace C2 := Lib.hid C2
      have HH := Lib.hid (And.intro hB23 (And.intro trivial (And.intro hnx (And.intro hnl (hB.out.2.below hB3 (Nat.le_refl _))))))
      rw [hw3] at C1
      have Hw3 := Lib.hid hw3
      clear hB3 hcell hB23 hcs hcf hcv hnx hnl hx1 hx1' hxl hw3
      go_wp2_with fail
      refine C1.out.mono ?_
      rintro e w4 ⟨rfl, hB4⟩
      rw [← Hw3.out] at hB4
      have hB24 := HH.out.1.trans (hB4.mono HH.out.1.size)
      have C3 := Lib.hid (C2.out w4)
      have hO4 := HH.out.2.2.2.2.below hB4 (Nat.le_refl _)
      have H4 := Lib.hid (And.intro hB24 hO4)
      clear hB24 hO4 hB4
      go_wp2_with fail
      refine C3.out.mono ?_
      rintro e w5 ⟨rfl, hB5⟩
      have hB25 := H4.out.1.trans (hB5.mono H4.out.1.size)
      have hO5 := H4.out.2.below hB5 (Nat.le_refl _)
      obtain ⟨v6, w6, E6, hO6, hG6⟩ := append_int hO5 hB25.size (by have := HH.out.2.2.2.1; omega) (cv : Int) 3
      have H6 := Lib.hid (And.intro (hB25.trans (hG6.belowI hO5 hB25.size)) hO6)
      clear hB5 hB25 hO5 hO6 hG6
      go_wp2_with fail
      go_roundw
      case rel => exact ⟨t + 1, by omega, by omega, by go_num, Lib.hid ⟨H6.out.1, by rw [HH.out.2.2.1]; exact H6.out.2⟩⟩
      case measure => simp [intOf] <;> omega
    · obtain rfl : t = need := by omega
      have htN : ¬ (t : Int) < N := by have := HN.out.1; omega
      go_wp2_with fail
      go_ret
      exact ⟨_, rfl, hB.out.2.mono H.out.1.size, H.out.1.trans (hB.out.1.mono H.out.1.size)⟩

theorem rsplit_arg (x need many : Int) (h : outB x = true) (k : List UInt8) (w : World) :
    Calls Tryz.prog 7 #[.int .i64 x, .int .i64 need, .int .i64 many, .agg (k.map u8v).toArray] w fun e w' => e = noS 1 ∧ Below w.heap.size w w' := by
  obtain ⟨d, hd⟩ : ∃ d, d = k.map u8v := ⟨_, rfl⟩
  rw [← hd]
  obtain ⟨w1, hw1⟩ : ∃ w1, w1 = w.alloc (.cells d.toArray 24) := ⟨_, rfl⟩
  have hB1 : Below w.heap.size w w1 := by rw [hw1]; exact (Below.refl _ _).alloc (Nat.le_refl _) _
  have C := rscalar8_any x w1
  rw [h] at C
  replace C := Lib.hid C
  have H := Lib.hid hB1
  clear hB1 hd h
  go_enter Tryz.func7, Tryz.ntmps7
  go_upto_region 1 with fail
  rw [← hw1]
  clear hw1
  go_wp2_with fail
  refine C.out.mono ?_
  rintro e w2 ⟨rfl, rfl⟩
  go_wp2_with fail
  go_ret2
  exact ⟨rfl, H.out⟩
theorem rsplit_bad (x need many : Int) (h : outB x = false) (hb : need < 1 ∨ many < need ∨ 64 < many) (k : List UInt8) (w : World) :
    Calls Tryz.prog 7 #[.int .i64 x, .int .i64 need, .int .i64 many, .agg (k.map u8v).toArray] w fun e w' => e = noS 80 ∧ Below w.heap.size w w' := by
  obtain ⟨d, hd⟩ : ∃ d, d = k.map u8v := ⟨_, rfl⟩
  rw [← hd]
  obtain ⟨w1, hw1⟩ : ∃ w1, w1 = w.alloc (.cells d.toArray 24) := ⟨_, rfl⟩
  have hB1 : Below w.heap.size w w1 := by rw [hw1]; exact (Below.refl _ _).alloc (Nat.le_refl _) _
  have C := rscalar8_any x w1
  rw [h] at C
  replace C := Lib.hid C
  have H := Lib.hid hB1
  have hcase : need < 1 ∨ (¬ need < 1 ∧ many < need) ∨ (¬ need < 1 ∧ ¬ many < need ∧ 64 < many) := by omega
  clear hB1 hd h hb
  rcases hcase with b1 | ⟨b1, b2⟩ | ⟨b1, b2, b3⟩
  all_goals
    go_enter Tryz.func7, Tryz.ntmps7
    go_upto_region 1 with fail
    rw [← hw1]
    clear hw1
    go_wp2_with fail
    refine C.out.mono ?_
    rintro e w2 ⟨rfl, rfl⟩
    go_wp2_with fail
    go_ret2
    exact ⟨rfl, H.out⟩

set_option maxRecDepth 20000 in
set_option maxHeartbeats 2000000 in
theorem rsplit_ok (s : Chart.F) (need many : Nat) (n1 : 1 ≤ need) (n2 : need ≤ many) (n3 : many ≤ 64) (k : List UInt8) (hk : k.length = 32) (w : World) :
    Calls Tryz.prog 7 #[fv s, .int .i64 (need : Nat), .int .i64 (many : Nat), .agg (k.map u8v).toArray] w fun e w' => ∃ u, e = .returned (.tuple #[u, .int .i64 0]) ∧ OwnS w.heap.size w' u (Chart.raw (Chart.splitS (coefs s k need) many)) ∧ Below w.heap.size w w' := by
  have CC := fun w => rcoefs_ok s need n1 (by omega) k hk w
  obtain ⟨d, hd⟩ : ∃ d, d = k.map u8v := ⟨_, rfl⟩
  rw [← hd] at CC ⊢
  have hdl : d.length = 32 := by rw [hd, List.length_map, hk]
  obtain ⟨w1, hw1⟩ : ∃ w1, w1 = w.alloc (.cells d.toArray 24) := ⟨_, rfl⟩
  have hB1 : Below w.heap.size w w1 := by rw [hw1]; exact (Below.refl _ _).alloc (Nat.le_refl _) _
  have hR1 : RowIs w1 w.heap.size 24 d := by rw [hw1]; exact RowIs.new w d _
  have C := rscalar8_any (s.val : Int) w1
  rw [outB_nat s.isLt] at C
  replace C := Lib.hid C
  obtain ⟨N, hN⟩ : ∃ N : Int, N = (need : Nat) := ⟨_, rfl⟩
  obtain ⟨M, hM⟩ : ∃ M : Int, M = (many : Nat) := ⟨_, rfl⟩
  rw [← hN] at CC
  rw [← hN, ← hM]
  replace CC := Lib.hid CC
  have b1 : ¬ N < 1 := by omega
  have b2 : ¬ M < N := by omega
  have b3 : ¬ 64 < M := by omega
  have hL := hR1.loads (P := Tryz.prog) 32 hdl
  have HN := Lib.hid (And.intro hN hM)
  have H := Lib.hid hB1
  clear hN hM hB1 hd hR1
  go_enter Tryz.func7, Tryz.ntmps7
  go_upto_region 1 with fail
  rw [← hw1]
  clear hw1
  go_wp2_with fail
  refine C.out.mono ?_
  rintro e w2 ⟨rfl, rfl⟩
  go_wp2_with fail
  refine (CC.out w1).mono ?_
  rintro e wr ⟨uc, rfl, hOc, hBc⟩
  obtain ⟨a, cap, rfl, hc, hx⟩ := hOc.view.shape
  have hcl : (nums (coefs s k need)).length = need := by rw [nums_length, coefs_length s k n1]
  obtain ⟨g, off, rfl, hg, hci⟩ := hx (by intro h0; rw [h0] at hcl; simp at hcl; omega)
  rw [hcl]
  have HC := Lib.hid (And.intro hci hg)
  have CE := Lib.hid (fun (x : Chart.F) w3 (hb : Below wr.heap.size wr w3) => reval_any (coefs s k need) x g off cap (by rw [coefs_length s k n1]; omega) w3 (fun i hi => by rw [(bcell hb).1 g _ HC.out.2]; exact HC.out.1 i hi))
  rw [coefs_length s k n1] at CE
  obtain ⟨cs, hcs⟩ : ∃ cs, cs = coefs s k need := ⟨_, rfl⟩
  rw [← hcs] at CE
  have Hcs := Lib.hid hcs
  have HW := Lib.hid (H.out.trans (hBc.mono H.out.size))
  clear hci hg hcl hx hc HC hcs H hL hOc hBc CC C
  go_wp2_with fail
  go_loopw [11, 12] (fun u i wq => ∃ q : Nat, q ≤ many ∧ i = .int .i64 ((q + 1 : Nat) : Int) ∧ Hid (Below wr.heap.size wr wq ∧ OwnS wr.heap.size wq u (Chart.raw (Chart.splitS cs q)))) (fun _ i _ => many + 1 - (intOf i).toNat)
  case atStart => exact ⟨0, Nat.zero_le _, rfl, Lib.hid ⟨Below.refl _ _, OwnS.nil _ _⟩⟩
  case round =>
    obtain ⟨q, hq, rfl, hQ⟩ := hrel
    by_cases hql : q < many
    · have hfx : ((Chart.fx (q + 1)).val : Int) = ((q + 1 : Nat) : Int) := by rw [Chart.fx_val (by rw [Q_eq]; omega)]
      have C1 := CE.out (Chart.fx (q + 1)) _ hQ.out.1
      have hsp : Chart.raw (Chart.splitS cs (q + 1)) = Chart.raw (Chart.splitS cs q) ++ [(((q + 1 : Nat) : Int), ((Chart.ev cs (Chart.fx (q + 1))).val : Int))] := by
        rw [Chart.splitS_succ, Chart.raw_append]
        show _ ++ [Chart.rawOf _] = _
        unfold Chart.rawOf
        rw [hfx]
      have hsl : (Chart.raw (Chart.splitS cs q)).length ≤ 64 := by rw [Chart.raw_length, Chart.splitS_length]; omega
      rw [fv, hfx] at C1
      obtain ⟨y, hy⟩ : ∃ y, y = (Chart.ev cs (Chart.fx (q + 1))).val := ⟨_, rfl⟩
      rw [← hy] at C1 hsp
      obtain ⟨z, hz⟩ : ∃ z : Int, z = ((q + 1 : Nat) : Int) := ⟨_, rfl⟩
      rw [← hz] at C1 hsp ⊢
      have hz1 : z ≤ M := by have := HN.out.2; omega
      have hz0 : 1 ≤ z := by omega
      have hz64 : z ≤ 64 := by omega
      have HZ := Lib.hid (And.intro hz (And.intro hsp hsl))
      replace C1 := Lib.hid C1
      clear hfx hsp hsl hy hz
      go_wp2_with fail
      refine C1.out.mono ?_
      rintro e w4 ⟨rfl, rfl⟩
      obtain ⟨v6, w6, E6, hO6, hG6⟩ := append_share hQ.out.2 hQ.out.1.size (by have := HZ.out.2.2; omega) z (y : Int) 36
      have H6 := Lib.hid (And.intro (hQ.out.1.trans (hG6.belowS hQ.out.2 hQ.out.1.size)) hO6)
      clear hO6 hG6
      go_wp2_with fail
      have hzq : z = (q : Int) + 1 := by have := HZ.out.1; omega
      go_roundw
      case rel => exact ⟨q + 1, by omega, by rw [hzq]; go_num, Lib.hid ⟨H6.out.1, by rw [HZ.out.2.1]; exact H6.out.2⟩⟩
      case measure => simp [intOf] <;> omega
    · obtain rfl : q = many := by omega
      have hqM : ¬ ((q + 1 : Nat) : Int) ≤ M := by have := HN.out.2; omega
      go_wp2_with fail
      go_ret2
      refine ⟨_, rfl, ?_, HW.out.trans (hQ.out.1.mono HW.out.size)⟩
      rw [← Hcs.out]
      exact hQ.out.2.mono HW.out.size

theorem rvalue_sv (l : Chart.Sh) (x : Chart.F) (v : Value) (h1 : 1 ≤ l.length) (h2 : l.length ≤ 64) (w : World) (hS : Sv w.heap.size w v (Chart.raw l)) :
    Calls Tryz.prog 23 #[v, fv x] w fun e w' => e = .returned (fv (Chart.val l x)) ∧ Below w.heap.size w w' := by
  obtain ⟨a, cap, rfl, hc, hx⟩ := hS.shape
  obtain ⟨g, off, rfl, hg, hS⟩ := hx (by intro h0; have := congrArg List.length h0; rw [Chart.raw_length] at this; rw [this] at h1; simp at h1)
  rw [Chart.raw_length]
  exact rvalue_at l x g off cap h2 w hS hg

theorem rjoin_ok (l : Chart.Sh) (h : Chart.okS (Chart.raw l) = true) (v : Value) (w : World) (hS : Sv w.heap.size w v (Chart.raw l)) :
    Calls Tryz.prog 9 #[v] w fun e w' => e = two ((Chart.val l 0).val : Nat) 0 ∧ Below w.heap.size w w' := by
  have hG := Chart.good h
  obtain ⟨a, cap, hv, -, -⟩ := hS.shape
  have C1 := rcheck_any v (Chart.raw l) w hS
  rw [shErr_ok h] at C1
  have C2 := fun w1 (hb : Below w.heap.size w w1) => rvalue_sv l 0 v hG.pos hG.few w1 ((hS.below hb).mono hb.size)
  obtain ⟨z, hz⟩ : ∃ z, z = (Chart.val l 0).val := ⟨_, rfl⟩
  rw [← hz]
  have C2' : Hid (∀ w1, Below w.heap.size w w1 → Calls Tryz.prog 23 #[v, .int .i64 0] w1 fun e w' => e = .returned (.int .i64 (z : Nat)) ∧ Below w1.heap.size w1 w') := by
    rw [hz]
    exact Lib.hid C2
  replace C1 := Lib.hid C1
  subst hv
  clear C2 hz hG hS h
  go_enter Tryz.func9, Tryz.ntmps9
  go_wp2_with fail
  refine C1.out.mono ?_
  rintro e w1 ⟨rfl, hB1⟩
  have H1 := Lib.hid hB1
  clear hB1
  go_wp2_with fail
  refine (C2'.out w1 H1.out).mono ?_
  rintro e w2 ⟨rfl, hB2⟩
  have H2 := Lib.hid (H1.out.trans (hB2.mono H1.out.size))
  clear hB2
  go_wp2_with fail
  go_ret2
  exact ⟨rfl, H2.out⟩
theorem rjoin_bad (l : Chart.Rs) (h : Chart.okS l = false) (v : Value) (w : World) (hS : Sv w.heap.size w v l) :
    Calls Tryz.prog 9 #[v] w fun e w' => e = two 0 80 ∧ Below w.heap.size w w' := by
  obtain ⟨a, cap, hv, -, -⟩ := hS.shape
  have C1 := rcheck_any v l w hS
  rw [shErr_bad h] at C1
  replace C1 := Lib.hid C1
  subst hv
  clear hS h
  go_enter Tryz.func9, Tryz.ntmps9
  go_wp2_with fail
  refine C1.out.mono ?_
  rintro e w1 ⟨rfl, hB1⟩
  have H1 := Lib.hid hB1
  clear hB1
  go_wp2_with fail
  go_ret2
  exact ⟨rfl, H1.out⟩
end Go.Proofs.YtgklcfipgdbbgaaGreatDoor
