/- chartroomlaw08.ShamirValues, walked. -/
import Derived.Test.YtgklcfipgdbbgaaDoorMSpF
namespace Go.Proofs.YtgklcfipgdbbgaaDoor
open Go.RowKit
attribute [-go_sem] Builtin.append_

set_option maxRecDepth 20000 in
set_option maxHeartbeats 4000000 in
theorem sval_early (x need many : Int) (k : List UInt8) (w : World) (hk : k.length = 32) (hl : Laid w) (m1 : 12 < many) (m2 : many ≤ 64) :
    Calls Tryd.prog 8 #[.int .i64 x, .int .i64 need, .int .i64 many, .agg (k.map u8v).toArray] w fun e w' => e = .returned (.bool true) ∧ Below w.heap.size w w' := by
  obtain ⟨d, hd⟩ : ∃ d, d = k.map u8v := ⟨_, rfl⟩
  rw [← hd]
  have hdl : d.length = 32 := by rw [hd, List.length_map, hk]
  obtain ⟨w1, hw1⟩ : ∃ w1, w1 = w.alloc (.cells d.toArray 33) := ⟨_, rfl⟩
  have hB1 : Below w.heap.size w w1 := by rw [hw1]; exact (Below.refl _ _).alloc (Nat.le_refl _) _
  have hR1 : RowIs w1 w.heap.size 33 d := by rw [hw1]; exact RowIs.new w d _
  have F1 := Lib.hid (And.intro hB1 (And.intro (hl.below hB1 hl.numLt hl.startLt) hR1))
  clear hd hdl
  clear hB1 hR1 hl
  go_enter Tryd.func8, Tryd.ntmps8
  go_upto_region 1 with fail
  rw [← hw1]
  clear hw1
  go_wp2_with fail
  refine (sane_ok w1 F1.out.2.1).mono ?_
  rintro e v2 ⟨rfl, hB2⟩
  have F3 := Lib.hid (And.intro (F1.out.1.trans (hB2.mono F1.out.1.size)) (And.intro (F1.out.2.1.below hB2 F1.out.2.1.numLt F1.out.2.1.startLt) (RowIs.below F1.out.2.2 hB2 (RowIs.lt F1.out.2.2))))
  clear hB2
  go_wp2_with fail
  go_ret
  exact ⟨rfl, F3.out.1⟩

set_option maxRecDepth 20000 in
set_option maxHeartbeats 4000000 in
theorem sval_bad (x need many : Int) (k : List UInt8) (w : World) (hk : k.length = 32) (hl : Laid w) (m1 : many ≤ 12 ∨ 64 < many) (c : Int) (c2 : (c != 0) = true)
    (hC : ∀ w, Calls Tryd.prog 16 #[.int .i64 x, .int .i64 need, .int .i64 many, .agg (k.map u8v).toArray] w fun e w' => e = noS c ∧ Below w.heap.size w w') :
    Calls Tryd.prog 8 #[.int .i64 x, .int .i64 need, .int .i64 many, .agg (k.map u8v).toArray] w fun e w' => e = .returned (.bool true) ∧ Below w.heap.size w w' := by
  obtain ⟨d, hd⟩ : ∃ d, d = k.map u8v := ⟨_, rfl⟩
  rw [← hd]
  have hdl : d.length = 32 := by rw [hd, List.length_map, hk]
  obtain ⟨w1, hw1⟩ : ∃ w1, w1 = w.alloc (.cells d.toArray 33) := ⟨_, rfl⟩
  have hB1 : Below w.heap.size w w1 := by rw [hw1]; exact (Below.refl _ _).alloc (Nat.le_refl _) _
  have hR1 : RowIs w1 w.heap.size 33 d := by rw [hw1]; exact RowIs.new w d _
  have F1 := Lib.hid (And.intro hB1 (And.intro (hl.below hB1 hl.numLt hl.startLt) hR1))
  have CS := Lib.hid hC
  rw [← hd] at CS
  clear hd hC
  have hcase : many ≤ 12 ∨ (12 < many ∧ 64 < many) := by omega
  clear m1
  clear hB1 hR1 hl
  go_enter Tryd.func8, Tryd.ntmps8
  go_upto_region 1 with fail
  rw [← hw1]
  clear hw1
  go_wp2_with fail
  refine (sane_ok w1 F1.out.2.1).mono ?_
  rintro e v2 ⟨rfl, hB2⟩
  have F3 := Lib.hid (And.intro (F1.out.1.trans (hB2.mono F1.out.1.size)) (And.intro (F1.out.2.1.below hB2 F1.out.2.1.numLt F1.out.2.1.startLt) (RowIs.below F1.out.2.2 hB2 (RowIs.lt F1.out.2.2))))
  clear hB2
  have L4 := (F3.out.2.2).loads (P := Tryd.prog) 32 hdl
  rcases hcase with m1 | ⟨m1, m2⟩
  all_goals
    go_wp2_with fail
    refine (CS.out v2).mono ?_
    rintro e v5 ⟨rfl, hB5⟩
    have F6 := Lib.hid (And.intro (F3.out.1.trans (hB5.mono F3.out.1.size)) (And.intro (F3.out.2.1.below hB5 F3.out.2.1.numLt F3.out.2.1.startLt) (RowIs.below F3.out.2.2 hB5 (RowIs.lt F3.out.2.2))))
    clear hB5
    go_wp2_with fail
    go_ret
    exact ⟨rfl, F6.out.1⟩

set_option maxRecDepth 20000 in
set_option maxHeartbeats 4000000 in
theorem sval_ok (s : Chart.F) (need many : Nat) (n1 : 1 ≤ need) (n2 : need ≤ many) (n3 : many ≤ 12) (k : List UInt8) (w : World) (hk : k.length = 32) (hl : Laid w) :
    Calls Tryd.prog 8 #[fv s, .int .i64 (need : Nat), .int .i64 (many : Nat), .agg (k.map u8v).toArray] w fun e w' => e = .returned (.bool true) ∧ Below w.heap.size w w' := by
  have m64 : many ≤ 64 := by omega
  have CS := fun w (hl : Laid w) => split_ok s need many n1 n2 m64 k hk w hl
  have hlen : (Chart.raw (Chart.splitS (coefs s k need) many)).length = many := by rw [Chart.raw_length, Chart.splitS_length]
  obtain ⟨d, hd⟩ : ∃ d, d = k.map u8v := ⟨_, rfl⟩
  rw [← hd]
  have hdl : d.length = 32 := by rw [hd, List.length_map, hk]
  obtain ⟨w1, hw1⟩ : ∃ w1, w1 = w.alloc (.cells d.toArray 33) := ⟨_, rfl⟩
  have hB1 : Below w.heap.size w w1 := by rw [hw1]; exact (Below.refl _ _).alloc (Nat.le_refl _) _
  have hR1 : RowIs w1 w.heap.size 33 d := by rw [hw1]; exact RowIs.new w d _
  have F1 := Lib.hid (And.intro hB1 (And.intro (hl.below hB1 hl.numLt hl.startLt) hR1))
  have Hd := Lib.hid hd
  rw [← hd] at CS
  replace CS := Lib.hid CS
  have HL := Lib.hid hlen
  obtain ⟨N, hN⟩ : ∃ N : Int, N = (need : Nat) := ⟨_, rfl⟩
  obtain ⟨M, hM⟩ : ∃ M : Int, M = (many : Nat) := ⟨_, rfl⟩
  rw [← hN, ← hM] at CS ⊢
  have b1 : ¬ N < 1 := by omega
  have b2 : ¬ M < N := by omega
  have b3 : M ≤ 12 := by omega
  have bM : ((many : Int) != M) = false := by rw [hM]; simp
  have HN := Lib.hid (And.intro hN hM)
  clear hd hN hM hlen
  clear hB1 hR1 hl
  go_enter Tryd.func8, Tryd.ntmps8
  go_upto_region 1 with fail
  rw [← hw1]
  clear hw1
  go_wp2_with fail
  refine (sane_ok w1 F1.out.2.1).mono ?_
  rintro e v2 ⟨rfl, hB2⟩
  have F3 := Lib.hid (And.intro (F1.out.1.trans (hB2.mono F1.out.1.size)) (And.intro (F1.out.2.1.below hB2 F1.out.2.1.numLt F1.out.2.1.startLt) (RowIs.below F1.out.2.2 hB2 (RowIs.lt F1.out.2.2))))
  clear hB2
  have L4 := (F3.out.2.2).loads (P := Tryd.prog) 32 hdl
  go_wp2_with fail
  refine (CS.out v2 F3.out.2.1).mono ?_
  rintro e v5 ⟨u, rfl, hO, hB5⟩
  have F6 := Lib.hid (And.intro (F3.out.1.trans (hB5.mono F3.out.1.size)) (And.intro (F3.out.2.1.below hB5 F3.out.2.1.numLt F3.out.2.1.startLt) (And.intro (RowIs.below F3.out.2.2 hB5 (RowIs.lt F3.out.2.2)) hO.view)))
  clear hB5
  clear hO L4
  obtain ⟨au, cu, hu, -, hux⟩ := (F6.out.2.2.2).shape
  rw [HL.out] at hu
  subst hu
  obtain ⟨gu, ou, rfl, hgu, hSu⟩ := hux (by intro h0; have := HL.out; rw [h0] at this; simp at this; omega)
  obtain ⟨w2, hw2⟩ : ∃ x, x = v5 := ⟨_, rfl⟩
  rw [← hw2] at hgu hSu ⊢
  have H2 : Hid (Below w.heap.size w w2 ∧ RowIs w2 w.heap.size 33 d ∧ Laid w2 ∧ gu < w2.heap.size ∧ SAt w2 gu ou (Chart.raw (Chart.splitS (coefs s k need) many))) := by rw [hw2] at hgu hSu ⊢; exact Lib.hid ⟨F6.out.1, F6.out.2.2.1, F6.out.2.1, hgu, hSu⟩
  clear hw2 hgu hSu HL
  go_wp2_with fail
  go_loopw [11, 12] (fun c i wr => ∃ t : Nat, 1 ≤ t ∧ t ≤ need ∧ i = .int .i64 t ∧ Hid (Below w2.heap.size w2 wr ∧ OwnI w2.heap.size wr c (nums (coefs s k t)))) (fun _ i _ => need - (intOf i).toNat)
  case atStart =>
    refine ⟨1, Nat.le_refl _, n1, rfl, Lib.hid ⟨(Below.refl _ _).alloc (Nat.le_refl _) _, ?_⟩⟩
    exact World.ownsRow_lit w2 #[fv s] 1 (Nat.le_refl _) (by unfold maxLen; omega) rfl
  case round =>
    obtain ⟨t, ht1, ht, rfl, hB⟩ := hrel
    by_cases hlt : t < need
    · have ht64 : (t : Int) ≤ 64 := by omega
      have htN : (t : Int) < N := by have := HN.out.1; omega
      have hL := (H2.out.2.1.below hB.out.1 H2.out.2.1.lt).loads (P := Tryd.prog) 32 hdl
      obtain ⟨w3, hw3⟩ : ∃ w3, w3 = wr.alloc (.cells #[.int .i64 (t : Nat)] 3) := ⟨_, rfl⟩
      have hB3 : Below wr.heap.size wr w3 := by rw [hw3]; exact (Below.refl _ _).alloc (Nat.le_refl _) _
      have hcell : w3.cell? ⟨wr.heap.size, 0, none⟩ = some (.int .i64 (t : Nat)) := by rw [hw3, cell_new]; rfl
      have hB23 := hB.out.1.trans (hB3.mono hB.out.1.size)
      have hl3 := H2.out.2.2.1.below hB23 H2.out.2.2.1.numLt H2.out.2.2.1.startLt
      have C1 := expand_one k hk share_ (by decide) (t : Int) (by omega) wr.heap.size w3 hl3 hcell
      rw [← Hd.out] at C1
      have hxl : (expand1 k derive_.data.toList share_ (t : Int)).length = 32 := expand1_length _ _ _ _
      have C2 := fun w4 (hl4 : Laid w4) => dscalar_any (expand1 k derive_.data.toList share_ (t : Int)) hxl share_ (by decide) w4 hl4
      have hcs := coefs_succ s k ht1
      obtain ⟨cv, hcv⟩ : ∃ cv, cv = dscalar (expand1 k derive_.data.toList share_ (t : Int)) share_ := ⟨_, rfl⟩
      have hcf : ((cf k t).val : Int) = (cv : Int) := by rw [cf_val, cfN, ← hcv]
      rw [← hcv] at C2
      have hnx : nums (coefs s k (t + 1)) = nums (coefs s k t) ++ [(cv : Int)] := by rw [hcs, nums_append, ← hcf]; rfl
      have hnl : (nums (coefs s k t)).length ≤ 64 := by rw [nums_length, coefs_length s k ht1]; omega
      obtain ⟨x1, hx1⟩ : ∃ x1, x1 = bytesV (expand1 k derive_.data.toList share_ (t : Int)) := ⟨_, rfl⟩
      have hx1' : (expand1 k derive_.data.toList share_ (t : Int)).map u8v = x1 := hx1.symm
      rw [← hx1] at C1
      rw [hx1'] at C2
      replace C1 := Lib.hid C1
      replace C2 := Lib.hid C2
      have HH := Lib.hid (And.intro hB23 (And.intro hl3 (And.intro hnx (And.intro hnl (hB.out.2.below hB3 (Nat.le_refl _))))))
      rw [hw3] at C1
      have Hw3 := Lib.hid hw3
      clear hB3 hcell hB23 hl3 hcs hcf hcv hnx hnl hx1 hx1' hxl hw3
      go_wp2_with fail
      refine C1.out.mono ?_
      rintro e w4 ⟨rfl, hB4⟩
      rw [← Hw3.out] at hB4
      have hB24 := HH.out.1.trans (hB4.mono HH.out.1.size)
      have C3 := Lib.hid (C2.out w4 (HH.out.2.1.below hB4 HH.out.2.1.numLt HH.out.2.1.startLt))
      have hO4 := HH.out.2.2.2.2.below hB4 (Nat.le_refl _)
      have H4 := Lib.hid (And.intro hB24 hO4)
      clear hB24 hO4 hB4
      go_wp2_with fail
      refine C3.out.mono ?_
      rintro e w5 ⟨rfl, hB5⟩
      have hB25 := H4.out.1.trans (hB5.mono H4.out.1.size)
      have hO5 := H4.out.2.below hB5 (Nat.le_refl _)
      obtain ⟨v6, w6, E6, hO6, hG6⟩ := append_int hO5 hB25.size (by have := HH.out.2.2.2.1; omega) (cv : Int) 3
      have H6 := Lib.hid (And.intro (hB25.trans (hG6.belowI hO5 hB25.size)) hO6)
      clear hB5 hB25 hO5 hO6 hG6
      go_wp2_with fail
      go_roundw
      case rel => exact ⟨t + 1, by omega, by omega, by go_num, Lib.hid ⟨H6.out.1, by rw [HH.out.2.2.1]; exact H6.out.2⟩⟩
      case measure => simp [intOf] <;> omega
    · obtain rfl : t = need := by omega
      obtain ⟨a, cap, rfl, hc, hx⟩ := hB.out.2.view.shape
      have hcl : (nums (coefs s k t)).length = t := by rw [nums_length, coefs_length s k ht1]
      obtain ⟨g, off, rfl, hg, hci⟩ := hx (by intro h0; rw [h0] at hcl; simp at hcl; omega)
      rw [hcl]
      have HC := Lib.hid (And.intro hci hg)
      have CE := Lib.hid (fun (x : Chart.F) w3 (hb : Below wr.heap.size wr w3) => eval_any (coefs s k t) x g off cap (by rw [coefs_length s k ht1]; omega) w3 (fun i hi => by rw [(bcell hb).1 g _ HC.out.2]; exact HC.out.1 i hi) (Nat.lt_of_lt_of_le HC.out.2 hb.size))
      rw [coefs_length s k ht1] at CE
      obtain ⟨cs, hcs⟩ : ∃ cs, cs = coefs s k t := ⟨_, rfl⟩
      rw [← hcs] at CE
      have H3 := Lib.hid (H2.out.2.2.2.2.below hB.out.1 H2.out.2.2.2.1)
      rw [← hcs] at H3
      have HW := Lib.hid (And.intro hB.out.1 (And.intro H2.out.1 H2.out.2.2.2.1))
      have htN : ¬ (t : Int) < N := by have := HN.out.1; omega
      clear hB hci hg hcl hx hc HC hcs H2
      go_wp2_with fail
      go_loopw [13] (fun i wq => ∃ q : Nat, q ≤ many ∧ i = .int .i64 (q : Int) ∧ Hid (Below wr.heap.size wr wq)) (fun i _ => many - (intOf i).toNat)
      case atStart => exact ⟨0, Nat.zero_le _, rfl, Lib.hid (Below.refl _ _)⟩
      case round =>
        obtain ⟨q, hq, rfl, hQ⟩ := hrel
        by_cases hql : q < many
        · have hfx : ((Chart.fx (q + 1)).val : Int) = (q : Int) + 1 := by rw [Chart.fx_val (by rw [Q_eq]; omega)]; omega
          have C1 := CE.out (Chart.fx (q + 1)) _ hQ.out
          have hqL : q < (Chart.raw (Chart.splitS cs many)).length := by rw [Chart.raw_length, Chart.splitS_length]; exact hql
          have ka := (H3.out.below hQ.out (Nat.lt_of_lt_of_le HW.out.2.2 HW.out.1.size)) q hqL
          rw [raw_at, Chart.splitS_at] at ka
          obtain ⟨y, hy⟩ : ∃ y, y = (Chart.ev cs (Chart.fx (q + 1))).val := ⟨_, rfl⟩
          have k0 : wr.cell? ⟨gu, ou + q * 2, none⟩ = some (.int .i64 ((q : Int) + 1)) := by rw [← hfx]; exact ka.1
          have k1 : wr.cell? ⟨gu, ou + q * 2 + 1, none⟩ = some (.int .i64 (y : Int)) := by rw [hy]; exact ka.2
          rw [fv, hfx] at C1
          rw [← hy] at C1
          obtain ⟨z, hz⟩ : ∃ z : Int, z = (q : Int) + 1 := ⟨_, rfl⟩
          rw [← hz] at C1 k0
          have hw1 : IntKind.i64.wrap ((q : Int) + 1) = z := by rw [hz]; exact wrap_i64_small _ (by omega) (by omega)
          have hqm : (q : Int) < (many : Int) := by omega
          have K := Lib.hid (And.intro k0 k1)
          have HZ := Lib.hid hz
          replace C1 := Lib.hid C1
          clear hfx hqL ka hy hz k0 k1
          go_wp2_with fail
          refine C1.out.mono ?_
          rintro e w4 ⟨rfl, hB4⟩
          have hgu4 : gu < wr.heap.size := cell_lt K.out.1
          have q0 : w4.cell? ⟨gu, ou + q * 2, none⟩ = some (.int .i64 z) := by rw [(bcell hB4).1 gu _ hgu4]; exact K.out.1
          have q1 : w4.cell? ⟨gu, ou + q * 2 + 1, none⟩ = some (.int .i64 (y : Int)) := by rw [(bcell hB4).1 gu _ hgu4]; exact K.out.2
          have H4 := Lib.hid (hQ.out.trans (hB4.mono hQ.out.size))
          clear hB4
          go_wp2_with fail
          go_roundw
          case rel => exact ⟨q + 1, by omega, by rw [HZ.out]; go_num, H4⟩
          case measure =>
            have := HZ.out
            simp [intOf] <;> omega
        · obtain rfl : q = many := by omega
          go_wp2_with fail
          go_ret
          have hwr := HW.out.2.1.trans (HW.out.1.mono HW.out.2.1.size)
          exact ⟨rfl, hwr.trans (hQ.out.mono hwr.size)⟩


theorem sval_walk (x need many : Int) (k : List UInt8) (w : World) (hk : k.length = 32) (hl : Laid w) :
    Calls Tryd.prog 8 #[.int .i64 x, .int .i64 need, .int .i64 many, .agg (k.map u8v).toArray] w fun e w' => e = .returned (.bool true) ∧ Below w.heap.size w w' := by
  by_cases hm : 12 < many ∧ many ≤ 64
  · exact sval_early x need many k w hk hl hm.1 hm.2
  cases ho : outB x
  · by_cases hb : need < 1 ∨ many < need ∨ 64 < many
    · exact sval_bad x need many k w hk hl (by omega) 80 rfl (fun w => split_bad x need many ho hb k w)
    · obtain ⟨h0, h1⟩ := outB_false ho
      obtain ⟨y, rfl⟩ := Int.eq_ofNat_of_zero_le h0
      obtain ⟨n, rfl⟩ := Int.eq_ofNat_of_zero_le (show 0 ≤ need by omega)
      obtain ⟨m, rfl⟩ := Int.eq_ofNat_of_zero_le (show 0 ≤ many by omega)
      have hy : y < Chart.Q := by rw [Q_eq]; omega
      have e : ((y : Nat) : Int) = ((Chart.fx y).val : Int) := by rw [Chart.fx_val hy]
      show Calls _ _ #[.int .i64 ((y : Nat) : Int), _, _, _] _ _
      rw [e]
      exact sval_ok (Chart.fx y) n m (by omega) (by omega) (by omega) k w hk hl
  · exact sval_bad x need many k w hk hl (by omega) 1 rfl (fun w => split_arg x need many ho k w)

end Go.Proofs.YtgklcfipgdbbgaaDoor
