/- The reference's hiding: masked and Mask. -/
import Derived.Test.YtejjincnghmbbaaGreatDoorMRs5
import Derived.Test.YtejjincnghmbbaaGreatDoorM21
import Derived.Test.YtejjincnghmbbaaGreatDoorM25
namespace Go.Proofs.YtejjincnghmbbaaGreatDoor
open Go.RowKit
attribute [-go_sem] Builtin.append_

set_option maxRecDepth 100000 in
set_option maxHeartbeats 4000000 in
theorem rmasked_any (k : List UInt8) (hk : k.length = 32) (m : Nat) (w : World) :
    Calls Tryz.prog 29 #[.agg (k.map u8v).toArray, .int .i64 m] w fun e w' => e = .returned (.agg (bytesV (Chart.comb k m)).toArray) ∧ Below w.heap.size w w' := by
  obtain ⟨d, hd⟩ : ∃ d, d = k.map u8v := ⟨_, rfl⟩
  rw [← hd]
  have hdl : d.length = 32 := by rw [hd, List.length_map, hk]
  obtain ⟨w1, hw1⟩ : ∃ x, x = w.alloc (.cells d.toArray 23) := ⟨_, rfl⟩
  obtain ⟨w2, hw2⟩ : ∃ x, x = w1.alloc (.cells #[.int .u8 0, .int .u8 0, .int .u8 0, .int .u8 0, .int .u8 0, .int .u8 0, .int .u8 0, .int .u8 0, .int .u8 0, .int .u8 0, .int .u8 0, .int .u8 0, .int .u8 0, .int .u8 0, .int .u8 0, .int .u8 0, .int .u8 0, .int .u8 0, .int .u8 0, .int .u8 0, .int .u8 0, .int .u8 0, .int .u8 0, .int .u8 0, .int .u8 0, .int .u8 0, .int .u8 0, .int .u8 0, .int .u8 0, .int .u8 0, .int .u8 0, .int .u8 0] 23) := ⟨_, rfl⟩
  obtain ⟨w3, hw3⟩ : ∃ x, x = w2.alloc (.cells #[] 5) := ⟨_, rfl⟩
  have s1 : w1.heap.size = w.heap.size + 1 := by rw [hw1]; simp
  have s2 : w2.heap.size = w.heap.size + 1 + 1 := by rw [hw2]; simp [s1]
  have r1 : RowIs w3 w.heap.size 23 d := by
    rw [hw3, hw2]
    refine RowIs.alloc (RowIs.alloc ?_ _) _
    rw [hw1]; exact RowIs.new w d _
  have r2 : RowIs w3 (w.heap.size + 1) 23 (List.replicate 32 (u8v 0)) := by
    rw [hw3]
    refine RowIs.alloc ?_ _
    rw [hw2, ← s1]; exact RowIs.new w1 (List.replicate 32 (u8v 0)) _
  have hO3 : Own w2.heap.size w3 (.slice (some ⟨w2.heap.size, 0, none⟩) 0 0) ([] ++ (Chart.beBytes m 8).take 0) := by rw [hw3]; exact Own.empty w2 (Nat.le_refl _)
  have hB3 : Below w2.heap.size w2 w3 := by rw [hw3]; exact (Below.refl _ w2).alloc (Nat.le_refl _) _
  have hB : Below w.heap.size w w3 := by
    rw [hw3, hw2, hw1]
    exact (((Below.refl _ w).alloc (Nat.le_refl _) _).alloc (by simp) _).alloc (by simp; omega) _
  obtain ⟨B, hBe⟩ : ∃ B, B = w.heap.size + 1 + 1 := ⟨_, rfl⟩
  rw [s2, ← hBe] at hO3 hB3
  have hBs : B ≤ w3.heap.size := by rw [hBe, ← s2]; exact hB3.size
  have HH := Lib.hid (And.intro r1 (And.intro r2 (And.intro hB (And.intro hd (And.intro hO3 (And.intro hBs hBe))))))
  rw [hw1] at hw2
  rw [hw2] at hw3
  clear r1 r2 hB hd hB3 s1 s2 hBs hO3 hw1 hw2
  go_enter Tryz.func29, Tryz.ntmps29
  go_upto_block 0 with fail
  rw [← hw3]
  clear hw3
  go_cut [5] (fun v wr => Own B wr v (Chart.beBytes m 8) ∧ Below B w3 wr)
  case first =>
    go_wp2_with fail
    go_loopw [5, 6] (fun v i wr => ∃ d : Nat, d ≤ 8 ∧ i = .int .i64 ((d : Int) - 1) ∧ Hid (Own B wr v ([] ++ (Chart.beBytes m 8).take (8 - d)) ∧ Below B w3 wr)) (fun _ i _ => (intOf i + 1).toNat)
    case atStart =>
      refine ⟨8, by omega, rfl, Lib.hid ⟨?_, Below.refl _ _⟩⟩
      have := HH.out.2.2.2.2.1
      rw [hBe] at this
      rw [hBe]
      exact this
    case round =>
      obtain ⟨d1, hd, rfl, H4⟩ := hrel
      match d1, hd with
      | 0, _ =>
        go_wp2_with fail
        go_meet
        have e := H4.out
        rw [List.take_of_length_le (by simp [Chart.beBytes_length])] at e
        exact e
      | d1 + 1, hd =>
        obtain ⟨v', w', E, hO, hG⟩ := append_byte H4.out.1 (Nat.le_trans HH.out.2.2.2.2.2.1 H4.out.2.size) (Chart.byteOf m d1) (by simp; omega)
        have hb := byte_snoc m (8 - (d1 + 1)) (by omega)
        have e7 : 7 - (8 - (d1 + 1)) = d1 := by omega
        have e9 : 8 - (d1 + 1) + 1 = 8 - d1 := by omega
        rw [e7, e9] at hb
        rw [List.append_assoc, hb] at hO
        have H' := Lib.hid (And.intro hO (H4.out.2.trans (hG.below H4.out.1 (Nat.le_trans HH.out.2.2.2.2.2.1 H4.out.2.size))))
        have e1 := byte_of m d1
        have e2 : IntKind.i64.wrap (8 * (d1 : Int)) = 8 * (d1 : Int) := wrap_i64_small' (by omega) (by omega)
        clear hO hG hb e7 e9
        go_wp2_with fail
        exact ⟨⟨d1, by omega, rfl, H'⟩, by simp [intOf]⟩
  case rest =>
    obtain ⟨hO, hBc⟩ := hcut
    obtain ⟨g4, cap4, rfl, hc4, hg4, hby⟩ := hO.shape (by intro h; have := congrArg List.length h; rw [Chart.beBytes_length] at this; cases this)
    have C1 := Lib.hid (rtag_any pad_ (by decide) (by decide) (Chart.beBytes m 8) (by rw [Chart.beBytes_length]; omega) g4 0 cap4 wc hby (own_lt hO g4 rfl))
    rw [Chart.beBytes_length] at C1 ⊢
    have r1 := HH.out.1.below hBc (by omega)
    have r2 := HH.out.2.1.below hBc (by omega)
    have rB := HH.out.2.2.1.trans (hBc.mono (by omega))
    have H1 := Lib.hid (And.intro rB (And.intro r1 r2))
    have HD := Lib.hid HH.out.2.2.2.1
    clear r1 r2 rB hby hg4 hc4 hO hBc
    go_wp2_with fail
    refine C1.out.mono ?_
    rintro e w5 ⟨rfl, hB5⟩
    obtain ⟨o, ho⟩ : ∃ o, o = Chart.tagged pad_.data.toList (Chart.beBytes m 8) := ⟨_, rfl⟩
    rw [← ho]
    have hol : o.length = 32 := by rw [ho, Chart.tagged_length]
    have q1 := H1.out.2.1.below hB5 H1.out.2.1.lt
    have q2 := H1.out.2.2.below hB5 H1.out.2.2.lt
    have qB := H1.out.1.trans (hB5.mono H1.out.1.size)
    obtain ⟨b, hb⟩ : ∃ b, b = o.map u8v := ⟨_, rfl⟩
    have hbl : b.length = 32 := by rw [hb, List.length_map, hol]
    rw [← hb]
    obtain ⟨w6, E6, hR6, hB6⟩ := fresh_store (P := Tryz.prog) w5 59 #[.int .u8 0, .int .u8 0, .int .u8 0, .int .u8 0, .int .u8 0, .int .u8 0, .int .u8 0, .int .u8 0, .int .u8 0, .int .u8 0, .int .u8 0, .int .u8 0, .int .u8 0, .int .u8 0, .int .u8 0, .int .u8 0, .int .u8 0, .int .u8 0, .int .u8 0, .int .u8 0, .int .u8 0, .int .u8 0, .int .u8 0, .int .u8 0, .int .u8 0, .int .u8 0, .int .u8 0, .int .u8 0, .int .u8 0, .int .u8 0, .int .u8 0, .int .u8 0] b (by rw [hbl]; rfl) (by rw [hb]; exact oneCell_bytes _)
    have p1 := q1.below hB6 q1.lt
    have p2 := q2.below hB6 q2.lt
    have pB := qB.trans (hB6.mono qB.size)
    have q1l := q1.lt
    have q2l := q2.lt
    rw [hb] at hR6
    have H6 := Lib.hid (And.intro pB (And.intro p1 (And.intro p2 (And.intro hR6 (And.intro q2l ho)))))
    clear pB p1 p2 hR6 ho hb q1 q2 qB hB5 hB6 C1 q1l q2l
    go_upto_block 2 with fail
    clear E6
    go_wp2_with fail
    go_loopw [8] (fun i wr => ∃ t : Nat, t ≤ 32 ∧ i = .int .i64 t ∧ Hid (RowIs wr w.heap.size 23 ((Chart.mixed k o t).map u8v)) ∧ Hid (Apart w.heap.size w6 wr)) (fun i _ => 32 - (intOf i).toNat)
    case atStart =>
      refine ⟨0, by omega, rfl, Lib.hid ?_, Lib.hid (Apart.refl _ _)⟩
      rw [Chart.mixed_zero, ← HD.out]
      exact H6.out.2.1
    case round =>
      obtain ⟨t, ht, rfl, hR, hA⟩ := hrel
      by_cases hlt : t < 32
      · obtain ⟨c, hc⟩ : ∃ c, o[t]? = some c := ⟨_, List.getElem?_eq_getElem (by omega)⟩
        obtain ⟨a, ha⟩ : ∃ a, k[t]? = some a := ⟨_, List.getElem?_eq_getElem (by omega)⟩
        have hd2 : wr.cell? ⟨w5.heap.size, t, none⟩ = some (u8v c) := by
          rw [hA.out.cell H6.out.2.2.2.1.lt (by have := H6.out.2.2.2.2.1; omega), H6.out.2.2.2.1.cell, List.getElem?_map, hc]; rfl
        have hcell := (hR.out.cell t).trans (show _ = some (u8v a) by rw [List.getElem?_map, Chart.mixed_get (by omega) ha]; rfl)
        have hfr := hR.out.frozen t
        have HS := Lib.hid (Chart.mixed_set (by omega) ha hc)
        clear hc ha
        go_upto_region 10 with fail
        go_region_with (fail)
        all_goals
          go_wp2_with fail
          refine ⟨⟨t + 1, by omega, by go_num, Lib.hid ?_, Lib.hid (hA.out.trans ((Apart.setCell wr _ _ _).trans ⟨rfl, rfl, rfl, Nat.le_refl _, fun _ _ _ => rfl⟩))⟩, by simp [intOf]; omega⟩
          rw [← HS.out, ← set_u8]
          exact RowIs.set (show RowIs wr _ _ _ from hR.out) _ _
      · obtain rfl : t = 32 := by omega
        have hall := Chart.mixed_all (k := k) (d := o) (by omega)
        rw [hk] at hall
        rw [hall] at hR
        have hR := hR.out
        have hA := hA.out
        have hB6 := hA.below H6.out.1 (Nat.le_refl _) H6.out.1.size
        have hz := H6.out.2.2.1.apart hA (by omega)
        obtain ⟨f, hf⟩ : ∃ f, f = (Chart.xorL k o).map u8v := ⟨_, rfl⟩
        rw [← hf] at hR
        have hfl : f.length = 32 := by rw [hf, List.length_map, Chart.xorL_length (by omega), hk]
        have E1 := hR.loads (P := Tryz.prog) 32 hfl
        have E2 := hz.stores (P := Tryz.prog) f (by rw [hfl]; rfl) (by rw [hf]; exact oneCell_bytes _)
        obtain ⟨w7, hw7⟩ : ∃ x, x = wr.setRow (w.heap.size + 1) f.toArray := ⟨_, rfl⟩
        rw [← hw7] at E2
        have hR7 : RowIs w7 (w.heap.size + 1) 23 f := by rw [hw7]; exact hz.setRow _
        have hB7 : Below w.heap.size w w7 := by rw [hw7]; exact below_setRow hB6 (by omega) _
        have Hf := Lib.hid hf
        clear hf hw7 hz hB6 hA hR hall
        go_wp2_with fail
        refine bodyPost_ret (results_cell_row (d := .array 32 5) rfl _ _ (w.heap.size + 1) _ f.toArray (0, 0) rfl hR7 (by kernel_rfl) rfl (by rw [List.size_toArray, hfl]; kernel_rfl)) rfl ?_
        refine ⟨?_, hB7⟩
        rw [Hf.out, H6.out.2.2.2.2.2]
        rfl
end Go.Proofs.YtejjincnghmbbaaGreatDoor
