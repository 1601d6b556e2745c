/- slices.Concat of two slices of bytes. -/
import Derived.Test.YtgklcfipgdbbgaaGreatDoorM8
namespace Go.Proofs.YtgklcfipgdbbgaaGreatDoor
open Go.RowKit
attribute [-go_sem] Builtin.append_

/-- How many bytes the first t of two have. -/
def upTo (a b : Nat) : Nat → Nat
  | 0 => 0
  | 1 => a
  | _ => a + b

set_option maxRecDepth 100000 in
set_option maxHeartbeats 4000000 in
theorem concat_two (l1 l2 : List UInt8) (v1 v2 : Value) (b : Nat) (T : TypeId) (w : World) (h1 : Bs w.heap.size w v1 l1) (h2 : Bs w.heap.size w v2 l2) (hr : RowIs w b T [v1, v2]) (h0 : 0 < l1.length) (hmax : ((l1.length + l2.length : Nat) : Int) ≤ 281474976710656) :
    Calls Tryz.prog 72 #[.slice (some ⟨b, 0, none⟩) 2 2] w fun e w' => ∃ v, e = .returned v ∧ Bs w'.heap.size w' v (l1 ++ l2) ∧ Below w.heap.size w w' := by
  have H1 := Lib.hid h1
  have H2 := Lib.hid h2
  obtain ⟨a1, c1, rfl, -, -⟩ := h1.ex
  obtain ⟨a2, c2, rfl, -, -⟩ := h2.ex
  clear h1 h2
  obtain ⟨n1, hn1⟩ : ∃ n, n = l1.length := ⟨_, rfl⟩
  obtain ⟨n2, hn2⟩ : ∃ n, n = l2.length := ⟨_, rfl⟩
  rw [← hn1] at hr h0 hmax; rw [← hn2] at hr hmax
  have Hn1 := Lib.hid hn1; have Hn2 := Lib.hid hn2
  clear hn1 hn2
  have k0 := (hr.cell 0).trans (show _ = some (.slice a1 n1 c1) from rfl)
  have k1 := (hr.cell 1).trans (show _ = some (.slice a2 n2 c2) from rfl)
  have hbw := hr.lt
  have Hr := Lib.hid hr; clear hr
  go_enter Tryz.func72, Tryz.ntmps72
  go_upto_block 0 with fail
  go_cut [3] (fun s wr => s = .int .i64 ((n1 + n2 : Nat) : Int) ∧ wr = w)
  case first =>
    go_wp2_with fail
    go_loop [11, 3] (fun i s => ∃ t : Nat, t ≤ 2 ∧ i = .int .i64 t ∧ s = .int .i64 (upTo n1 n2 t)) (fun i _ => 2 - (intOf i).toNat)
    case atStart => exact ⟨0, by omega, rfl, rfl⟩
    case round =>
      obtain ⟨t, ht, rfl, rfl⟩ := hrel
      rcases t with _ | _ | _ | t
      · have e0 : (upTo n1 n2 0 : Int) = 0 := rfl
        have e1 : IntKind.i64.wrap (n1 : Int) = (n1 : Int) := wrap_i64_small' (by omega) (by omega)
        have e2 : ¬ (n1 : Int) < 0 := by omega
        go_wp2_with fail
        exact ⟨⟨1, by omega, rfl, rfl⟩, by simp [intOf]⟩
      · have e0 : (upTo n1 n2 1 : Int) = (n1 : Int) := rfl
        obtain ⟨n3, hn3⟩ : ∃ n, n = n1 + n2 := ⟨_, rfl⟩
        have e1 : IntKind.i64.wrap ((n1 : Int) + (n2 : Int)) = (n3 : Int) := (wrap_i64_small' (by omega) (by omega)).trans (by omega)
        have e2 : ¬ (n3 : Int) < 0 := by omega
        have Hn3 := Lib.hid hn3; clear hn3
        go_wp2_with fail
        exact ⟨⟨2, by omega, rfl, by rw [Hn3.out]; rfl⟩, by simp [intOf]⟩
      · go_wp2_with fail
        go_meet
        exact ⟨rfl, rfl⟩
      · omega
  case rest =>
    obtain ⟨rfl, rfl⟩ := hcut
    obtain ⟨n3, hn3⟩ : ∃ n, n = n1 + n2 := ⟨_, rfl⟩
    rw [← hn3] at hmax ⊢
    have G := Lib.hid (grow_any n3 (by omega) hmax wc)
    have Hn3 := Lib.hid hn3; clear hn3
    go_wp2_with fail
    refine G.out.mono ?_
    rintro e w1 ⟨C, hC, rfl, hR1, hB1⟩
    obtain ⟨g, hg⟩ : ∃ x, x = wc.heap.size := ⟨_, rfl⟩
    rw [← hg] at hR1 ⊢
    have hBs1 : Bs wc.heap.size w1 (.slice a1 n1 c1) l1 := by have := H1.out.below hB1; rwa [← Hn1.out] at this
    have hBs2 : Bs wc.heap.size w1 (.slice a2 n2 c2) l2 := by have := H2.out.below hB1; rwa [← Hn2.out] at this
    have E1 := append_room (sLen := 0) (sCap := C) hR1 hBs1 (by rw [← Hn1.out]; have := Hn3.out; omega) (by simp)
    rw [← Hn1.out, Nat.zero_add] at E1
    have hl1 : (splice (List.replicate C (u8v 0)) 0 (l1.map u8v)).length = C := by
      rw [splice_length _ _ _ (by simp; have := Hn3.out; have := Hn1.out; omega)]; simp
    obtain ⟨w2, hw2⟩ : ∃ x, x = w1.setRow g (splice (List.replicate C (u8v 0)) 0 (l1.map u8v)).toArray := ⟨_, rfl⟩
    rw [← hw2] at E1
    have hR2 : RowIs w2 g 5 (splice (List.replicate C (u8v 0)) 0 (l1.map u8v)) := by rw [hw2]; exact hR1.setRow _
    have hB2 : Below wc.heap.size w1 w2 := by rw [hw2]; exact below_setRow (Below.refl _ _) (Nat.le_of_eq hg.symm) _
    have E2 := append_room (sLen := n1) (sCap := C) hR2 (hBs2.below hB2) (by rw [← Hn2.out]; have := Hn3.out; omega) (by omega)
    rw [← Hn2.out, ← Hn3.out] at E2
    obtain ⟨w3, hw3⟩ : ∃ x, x = w2.setRow g (splice (splice (List.replicate C (u8v 0)) 0 (l1.map u8v)) n1 (l2.map u8v)).toArray := ⟨_, rfl⟩
    rw [← hw3] at E2
    have hR3 : RowIs w3 g 5 (splice (splice (List.replicate C (u8v 0)) 0 (l1.map u8v)) n1 (l2.map u8v)) := by rw [hw3]; exact hR2.setRow _
    have hB3 : Below wc.heap.size w2 w3 := by rw [hw3]; exact below_setRow (Below.refl _ _) (Nat.le_of_eq hg.symm) _
    have k01 : w1.cell? ⟨b, 0, none⟩ = some (.slice a1 n1 c1) := ((bcell hB1).1 _ _ hbw).trans k0
    have k13 : w2.cell? ⟨b, 1, none⟩ = some (.slice a2 n2 c2) := ((bcell (hB1.trans hB2)).1 _ _ hbw).trans k1
    have HF : Hid (Bs w3.heap.size w3 (.slice (some ⟨g, 0, none⟩) n3 C) (l1 ++ l2) ∧ Below wc.heap.size wc w3) := by
      refine Lib.hid ⟨Bs.row hR3 hR3.lt _ (by rw [List.length_append, ← Hn1.out, ← Hn2.out, ← Hn3.out]) hC ?_, hB1.trans (hB2.trans hB3)⟩
      intro i hi
      rw [List.length_append, ← Hn1.out, ← Hn2.out] at hi
      have h3 := Hn3.out
      have h1 := Hn1.out
      have h2 := Hn2.out
      rw [Nat.zero_add, splice_get _ _ _ (by rw [hl1, List.length_map]; omega), splice_get _ _ _ (by simp; omega)]
      simp only [List.length_map, ← h1, ← h2]
      by_cases hi1 : i < n1
      · rw [if_neg (by omega), if_pos (by omega)]
        simp [List.getElem_append_left (show i < l1.length by omega), show i < l1.length by omega]
      · rw [if_pos (by omega)]
        simp only [List.getElem_append_right (show l1.length ≤ i by omega), List.getElem?_map, ← h1]
        rw [List.getElem?_eq_getElem (by omega)]; rfl
    clear hw2 hw3 hR1 hR2 hR3 hl1 hB1 hB2 hB3 hBs1 hBs2 hg k0 k1
    go_wp2_with fail
    go_loopw [27, 6] (fun i s wr => (i = .int .i64 0 ∧ s = .slice (some ⟨g, 0, none⟩) 0 C ∧ wr = w1) ∨ (i = .int .i64 1 ∧ s = .slice (some ⟨g, 0, none⟩) n1 C ∧ wr = w2) ∨ (i = .int .i64 2 ∧ s = .slice (some ⟨g, 0, none⟩) n3 C ∧ wr = w3)) (fun i _ _ => 2 - (intOf i).toNat)
    case atStart => exact .inl ⟨rfl, rfl, rfl⟩
    case round =>
      rcases hrel with ⟨rfl, rfl, rfl⟩ | ⟨rfl, rfl, rfl⟩ | ⟨rfl, rfl, rfl⟩
      · go_wp2_with fail
        exact ⟨.inr (.inl ⟨rfl, rfl, trivial⟩), by simp [intOf]⟩
      · go_wp2_with fail
        exact ⟨.inr (.inr ⟨rfl, rfl, trivial⟩), by simp [intOf]⟩
      · go_wp2_with fail
        go_ret
        exact ⟨_, rfl, HF.out.1, HF.out.2⟩
end Go.Proofs.YtgklcfipgdbbgaaGreatDoor
