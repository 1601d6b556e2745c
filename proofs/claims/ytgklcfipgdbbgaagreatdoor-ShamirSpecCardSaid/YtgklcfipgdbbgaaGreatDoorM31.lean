/- Bytes in a row of their own: more. -/
import Derived.Test.YtgklcfipgdbbgaaGreatDoorM16
import Derived.Test.YtgklcfipgdbbgaaGreatDoorM30
namespace Go.Proofs.YtgklcfipgdbbgaaGreatDoor
open Go.RowKit

theorem Own.empty {B : Nat} (w : World) (hB : B ≤ w.heap.size) : Own B (w.alloc (.cells #[] 5)) (.slice (some ⟨w.heap.size, 0, none⟩) 0 0) [] :=
  ⟨rfl, .inr ⟨w.heap.size, 0, #[], rfl, hB, heap_new w _, Nat.le_refl _, by unfold maxLen; omega, rfl, rfl⟩⟩
theorem Own.shape {B : Nat} {w : World} {v : Value} {l : List UInt8} (h : Own B w v l) (hl : l ≠ []) : ∃ g cap, v = .slice (some ⟨g, 0, none⟩) l.length cap ∧ l.length ≤ cap ∧ B ≤ g ∧ BytesAt w g 0 l := by
  have hb := h.bs
  obtain ⟨_, ⟨_, hn⟩ | ⟨g, cap, cur, rfl, hg, hc, hcap, _⟩⟩ := h
  · exact absurd (List.eq_nil_of_length_eq_zero hn) hl
  · obtain ⟨a, c, hv, _, hx⟩ := hb.ex
    obtain ⟨g', off, ha, hg', hby⟩ := hx hl
    rw [ha] at hv
    injection hv with e1 e2 e3
    injection e1 with e1
    injection e1 with e4 e5
    subst e4
    subst e5
    exact ⟨g, cap, rfl, hcap, hg, hby⟩

/-- Bytes in a row of their own, and all old memory as it was. -/
def Made (B : Nat) (l : List UInt8) (w : World) (e : Ending) (w' : World) : Prop := ∃ v, e = .returned v ∧ Own B w' v l ∧ Below B w w'
end Go.Proofs.YtgklcfipgdbbgaaGreatDoor

/- The reference's digest: the bytes with their end. -/
namespace Go.Proofs.YtgklcfipgdbbgaaGreatDoor
open Go.RowKit
attribute [-go_sem] Builtin.append_

theorem Gr.drewN {w w' : World} {v v' : Value} (h : Gr w v w' v') (n : Nat) : Gr w v (w'.drewN n) v' :=
  ⟨h.os, h.tape, h.output, h.size, h.block, h.own⟩

def lenOf : Value → Nat
  | .slice _ n _ => n
  | _ => 0

theorem pad_rest (n j : Nat) (hj : j < Chart.zerosFor n) : (n + 1 + j) % 64 ≠ 56 := by unfold Chart.zerosFor at hj; omega
theorem pad_done (n : Nat) : (n + 1 + Chart.zerosFor n) % 64 = 56 := by unfold Chart.zerosFor; omega
theorem zerosFor_lt (n : Nat) : Chart.zerosFor n < 64 := by unfold Chart.zerosFor; omega
theorem bn_128 : bn 128 = 128 := rfl
theorem bn_zero : bn 0 = 0 := rfl
theorem byte_snoc (m k : Nat) (h : k < 8) : (Chart.beBytes m 8).take k ++ [Chart.byteOf m (7 - k)] = (Chart.beBytes m 8).take (k + 1) := by
  rw [List.take_add_one, beBytes_get m 8 k h]
  rfl

set_option maxRecDepth 20000 in
set_option maxHeartbeats 4000000 in
theorem rpad_any (l : List UInt8) (hlen : l.length < 1099511627776) (g off cap : Nat) (w : World) (hb : BytesAt w g off l) (hg : g < w.heap.size) :
    Calls Tryz.prog 94 #[.slice (some ⟨g, off, none⟩) l.length cap] w (Made w.heap.size (Chart.padded l) w) := by
  obtain ⟨w1, hw1⟩ : ∃ x, x = w.alloc (.cells #[] 5) := ⟨_, rfl⟩
  have hO1 : Own w.heap.size w1 (.slice (some ⟨w.heap.size, 0, none⟩) 0 0) [] := by rw [hw1]; exact Own.empty w (Nat.le_refl _)
  have hB1 : Below w.heap.size w w1 := by rw [hw1]; exact (Below.refl _ w).alloc (Nat.le_refl _) _
  obtain ⟨v2, w2, E2, hO2, hG2⟩ := append_own (m := l) hO1 hB1.size g off cap (hb.below hB1 hg) (by simp; omega)
  rw [hw1] at E2
  rw [List.nil_append] at hO2
  have hB2 : Below w.heap.size w w2 := hB1.trans (hG2.below hO1 hB1.size)
  obtain ⟨v3, w3, E3, hO3, hG3⟩ := append_byte hO2 hB2.size 128 (by omega)
  rw [bn_128] at E3
  have hB3 : Below w.heap.size w w3 := hB2.trans (hG3.below hO2 hB2.size)
  obtain ⟨n, hn⟩ : ∃ n, n = l.length := ⟨_, rfl⟩
  have H3 := Lib.hid (And.intro hO3 (And.intro hB3 hn))
  have Hl := Lib.hid hlen
  rw [← hn] at E2 ⊢
  clear hO1 hB1 hO2 hG2 hB2 hO3 hG3 hB3 hb hg hn hlen
  go_enter Tryz.func94, Tryz.ntmps94
  go_upto_block 0 with fail
  clear E2 E3 hw1
  go_cut [3] (fun v wr => Own w.heap.size wr v (l ++ [128] ++ List.replicate (Chart.zerosFor n) 0) ∧ Below w.heap.size w wr)
  case first =>
    go_wp2_with fail
    go_loopw [3] (fun v wr => ∃ j : Nat, j ≤ Chart.zerosFor n ∧ lenOf v = n + 1 + j ∧ Hid (Own w.heap.size wr v (l ++ [128] ++ List.replicate j 0) ∧ Below w.heap.size w wr)) (fun v _ => n + 65 - lenOf v)
    case atStart =>
      refine ⟨0, Nat.zero_le _, ?_, Lib.hid ⟨by simpa using H3.out.1, H3.out.2.1⟩⟩
      obtain ⟨g, cap, rfl, -⟩ := H3.out.1.shape (by simp)
      simp [lenOf, H3.out.2.2]
    case round =>
      obtain ⟨j, hj, hlv, H⟩ := hrel
      obtain ⟨g2, cap2, rfl, hcap, -, -⟩ := H.out.1.shape (by simp)
      have hlen : (l ++ [128] ++ List.replicate j (0 : UInt8)).length = n + 1 + j := by simp [← H3.out.2.2]; omega
      rw [hlen] at H ⊢ hcap
      have hz := zerosFor_lt n
      have hnl := Hl.out
      rw [← H3.out.2.2] at hnl
      by_cases hlt : j < Chart.zerosFor n
      · have hne := pad_rest n j hlt
        obtain ⟨v', w', E, hO, hG⟩ := append_byte H.out.1 H.out.2.size 0 (by rw [hlen]; omega)
        rw [bn_zero] at E
        have H' := Lib.hid (And.intro hO (H.out.2.trans (hG.below H.out.1 H.out.2.size)))
        rw [List.append_assoc, ← List.replicate_succ'] at H'
        clear hO hG hcap hlen
        go_wp2_with fail
        obtain ⟨g3, cap3, rfl, -⟩ := H'.out.1.shape (by simp)
        have hl3 : (l ++ [128] ++ List.replicate (j + 1) (0 : UInt8)).length = n + 1 + (j + 1) := by simp [← H3.out.2.2]; omega
        rw [hl3] at H' ⊢
        exact ⟨⟨j + 1, by omega, rfl, H'⟩, by simp [lenOf]; omega⟩
      · obtain rfl : j = Chart.zerosFor n := by omega
        have hdone := pad_done n
        clear hz hcap hlen
        go_wp2_with fail
        go_meet
        exact H.out
  case rest =>
    obtain ⟨hO, hB⟩ := hcut
    have H := Lib.hid (And.intro hO hB)
    clear hO hB
    have hnl := Hl.out
    rw [← H3.out.2.2] at hnl
    have e0 : IntKind.u64.wrap (n : Int) = (n : Int) := by rw [IntKind.wrap_u64]; omega
    obtain ⟨m, hm⟩ : ∃ m, m = 8 * n % 2 ^ 64 := ⟨_, rfl⟩
    have e8 : IntKind.u64.wrap ((n : Int) * 8) = (m : Int) := by rw [IntKind.wrap_u64, hm]; omega
    have Hm := Lib.hid hm
    clear hm
    go_upto_block 2 with fail
    obtain ⟨base, hbase⟩ : ∃ x, x = l ++ [128] ++ List.replicate (Chart.zerosFor n) 0 := ⟨_, rfl⟩
    have Hbase := Lib.hid hbase
    have hbl : base.length + 8 ≤ 140737488355328 := by
      have := zerosFor_lt n
      have h3 := H3.out.2.2
      simp [hbase]; omega
    have Hbl := Lib.hid hbl
    rw [← hbase] at H
    clear hbase hbl e0 e8
    go_cut [3, 5] (fun v _ wr => Own w.heap.size wr v (base ++ Chart.beBytes m 8) ∧ Below w.heap.size w wr)
    case first =>
      go_wp2_with fail
      go_loopw [3, 5] (fun v i wr => ∃ d : Nat, d ≤ 8 ∧ i = .int .i64 ((d : Int) - 1) ∧ Hid (Own w.heap.size wr v (base ++ (Chart.beBytes m 8).take (8 - d)) ∧ Below w.heap.size w wr)) (fun _ i _ => (intOf i + 1).toNat)
      case atStart => exact ⟨8, by omega, rfl, Lib.hid ⟨by simpa using H.out.1, H.out.2⟩⟩
      case round =>
        obtain ⟨d, hd, rfl, H4⟩ := hrel
        match d, hd with
        | 0, _ =>
          go_wp2_with fail
          go_meet
          have e := H4.out
          rw [List.take_of_length_le (by simp [Chart.beBytes_length])] at e
          exact e
        | d + 1, hd =>
          obtain ⟨g2, cap2, rfl, hcap, -, -⟩ := H4.out.1.shape (by simp [Hbase.out])
          have hblen := Hbl.out
          have hlen : (base ++ (Chart.beBytes m 8).take (8 - (d + 1))).length ≤ base.length + 8 := by simp; omega
          obtain ⟨v', w', E, hO, hG⟩ := append_byte H4.out.1 H4.out.2.size (Chart.byteOf m d) (by simp; omega)
          have hb := byte_snoc m (8 - (d + 1)) (by omega)
          have e7 : 7 - (8 - (d + 1)) = d := by omega
          have e9 : 8 - (d + 1) + 1 = 8 - d := by omega
          rw [e7, e9] at hb
          rw [List.append_assoc, hb] at hO
          have H' := Lib.hid (And.intro hO (H4.out.2.trans (hG.below H4.out.1 H4.out.2.size)))
          have e1 := byte_of m d
          have e2 : IntKind.i64.wrap (8 * (d : Int)) = 8 * (d : Int) := wrap_i64_small' (by omega) (by omega)
          obtain ⟨n4, hn4⟩ : ∃ x, x = (base ++ (Chart.beBytes m 8).take (8 - (d + 1))).length := ⟨_, rfl⟩
          rw [← hn4] at E ⊢
          clear hO hG hb e7 e9 hblen hlen hcap hn4
          go_wp2_with fail
          exact ⟨⟨d, by omega, rfl, H'⟩, by simp [intOf]⟩
    case rest =>
      obtain ⟨hO, hB⟩ := hcut
      have H5 := Lib.hid (And.intro hO hB)
      clear hO hB
      go_wp2_with fail
      refine bodyPost_ret (results_tmp rfl _ _ _) rfl ?_
      refine ⟨_, rfl, ?_, H5.out.2⟩
      have := H5.out.1
      rw [Hbase.out, Hm.out, H3.out.2.2] at this
      exact this
end Go.Proofs.YtgklcfipgdbbgaaGreatDoor
