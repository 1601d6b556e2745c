/- The reference's derive: Purpose, Expand, Scalar with no numbers. -/
import Derived.Test.YtgklcfipgdbbgaaGreatDoorM33
import Derived.Test.YtgklcfipgdbbgaaGreatDoorM35
import Derived.Test.YtgklcfipgdbbgaaGreatDoorM21
namespace Go.Proofs.YtgklcfipgdbbgaaGreatDoor
open Go.RowKit
attribute [-go_sem] Builtin.append_

theorem encL_ne (l : List It) : encL l ≠ [] := by unfold encL; simp

set_option maxRecDepth 20000 in
theorem rpurpose_nil (s : ByteArray) (hs : s.data.toList.length < 1000000) (w : World) :
    Calls Tryz.prog 65 #[.string s, .slice none 0 0] w (Made w.heap.size (encL [.text s]) w) := by
  obtain ⟨w1, hw1⟩ : ∃ x, x = w.alloc (.cells #[.int .i64 2, .int .i64 0, .string s, .slice none 0 0] 59) := ⟨_, rfl⟩
  have hB1 : Below w.heap.size w w1 := by rw [hw1]; exact (Below.refl _ w).alloc (Nat.le_refl _) _
  have hR : RowIs w1 w.heap.size 59 [.int .i64 2, .int .i64 0, .string s, .slice none 0 0] := by rw [hw1]; exact RowIs.new w _ _
  have hi : ItsAt w1 w.heap.size [.text s] := by
    intro i hi j v hv
    have : i = 0 := by simp at hi; exact hi
    subst this
    rw [show 4 * 0 + j = j by omega, hR.cell j]
    exact hv
  have C := Lib.hid (rEncode_list [.text s] (by intro x hx; simp at hx; subst hx; exact hs) w.heap.size 1 (by simp) (by simp) w1 hi hR.lt)
  have H := Lib.hid hB1
  clear hR hi hB1 hs
  go_enter Tryz.func65, Tryz.ntmps65
  go_wp2_with fail
  rw [← hw1]
  clear hw1
  go_loopw [5, 6] (fun v i wr => v = .slice (some ⟨w.heap.size, 0, none⟩) 1 1 ∧ i = .int .i64 0 ∧ w1 = wr) (fun _ _ _ => 0)
  case atStart => exact ⟨rfl, rfl, rfl⟩
  case round =>
    obtain ⟨rfl, rfl, rfl⟩ := hrel
    go_wp2_with fail
    refine C.out.mono ?_
    rintro e w2 ⟨v2, rfl, hO2, hB2⟩
    have H2 := Lib.hid (And.intro (hO2.mono H.out.size) (H.out.trans (hB2.mono H.out.size)))
    clear hO2 hB2
    go_wp2_with fail
    go_ret
    exact ⟨_, rfl, H2.out.1, H2.out.2⟩

set_option maxRecDepth 100000 in
set_option maxHeartbeats 4000000 in
theorem rexpand_nil (k : List UInt8) (hk : k.length = 32) (s : ByteArray) (hs : s.data.toList.length < 1000000) (w : World) :
    Calls Tryz.prog 40 #[.agg (k.map u8v).toArray, .string s, .slice none 0 0] w fun e w' => e = .returned (.agg (bytesV (expand0 k derive_.data.toList s)).toArray) ∧ Below w.heap.size w w' := by
  obtain ⟨c, hc⟩ : ∃ c, c = k.map u8v := ⟨_, rfl⟩
  have hcl : c.length = 32 := by rw [hc, List.length_map, hk]
  rw [← hc]
  obtain ⟨w1, hw1⟩ : ∃ x, x = w.alloc (.cells c.toArray 24) := ⟨_, rfl⟩
  obtain ⟨w2, hw2⟩ : ∃ x, x = w1.alloc (.cells #[.int .u8 0, .int .u8 0, .int .u8 0, .int .u8 0, .int .u8 0, .int .u8 0, .int .u8 0, .int .u8 0, .int .u8 0, .int .u8 0, .int .u8 0, .int .u8 0, .int .u8 0, .int .u8 0, .int .u8 0, .int .u8 0, .int .u8 0, .int .u8 0, .int .u8 0, .int .u8 0, .int .u8 0, .int .u8 0, .int .u8 0, .int .u8 0, .int .u8 0, .int .u8 0, .int .u8 0, .int .u8 0, .int .u8 0, .int .u8 0, .int .u8 0, .int .u8 0] 24) := ⟨_, rfl⟩
  obtain ⟨w3, hw3⟩ : ∃ x, x = w2.alloc (.cells #[] 5) := ⟨_, rfl⟩
  have s1 : w1.heap.size = w.heap.size + 1 := by rw [hw1]; simp
  have s2 : w2.heap.size = w.heap.size + 1 + 1 := by rw [hw2]; simp [s1]
  have r1 : RowIs w3 w.heap.size 24 c := by
    rw [hw3, hw2]
    refine RowIs.alloc (RowIs.alloc ?_ _) _
    rw [hw1]; exact RowIs.new w c _
  have r2 : RowIs w3 (w.heap.size + 1) 24 (List.replicate 32 (u8v 0)) := by
    rw [hw3]
    refine RowIs.alloc ?_ _
    rw [hw2, ← s1]; exact RowIs.new w1 (List.replicate 32 (u8v 0)) _
  have hO3 : Own w2.heap.size w3 (.slice (some ⟨w2.heap.size, 0, none⟩) 0 0) [] := by rw [hw3]; exact Own.empty w2 (Nat.le_refl _)
  have hB3 : Below w2.heap.size w2 w3 := by rw [hw3]; exact (Below.refl _ w2).alloc (Nat.le_refl _) _
  have hB : Below w.heap.size w w3 := by
    rw [hw3, hw2, hw1]
    exact (((Below.refl _ w).alloc (Nat.le_refl _) _).alloc (by simp) _).alloc (by simp; omega) _
  have hby : BytesAt w3 w.heap.size 0 k := fun i hi => (r1.cell (0 + i)).trans (by rw [hc]; simp [hi])
  obtain ⟨v4, w4, E4, hO4, hG4⟩ := append_own (m := k) hO3 hB3.size w.heap.size 0 32 hby (by simp; omega)
  rw [hk, s2] at E4
  rw [List.nil_append] at hO4
  have hB4 : Below w2.heap.size w3 w4 := hG4.below hO3 hB3.size
  have q2 := r2.below hB4 (by omega)
  have qB := hB.trans (hB4.mono (by omega))
  have CP := Lib.hid (rpurpose_nil s hs w4)
  have hel : (encL [.text s]).length < 2000000 := by
    have := numB_length 10 s.data.toList.length (by omega)
    simp [encL, It.enc, numB_small 1 (by omega)]
    simp at this hs
    omega
  have H4 := Lib.hid (And.intro qB (And.intro q2 (And.intro (hO4.mono (show w2.heap.size ≤ w2.heap.size from Nat.le_refl _)) (And.intro hel (hB3.trans hB4)))))
  have Hs2 := Lib.hid s2
  rw [hw1] at hw2
  rw [hw2] at hw3
  rw [hw3] at E4
  clear r1 r2 hO3 hB3 hB hby hO4 hG4 hB4 q2 qB s1 s2 hw1 hw2 hw3 hel hc
  go_enter Tryz.func40, Tryz.ntmps40
  go_wp2_with fail
  clear E4
  refine CP.out.mono ?_
  rintro e w5 ⟨v5, rfl, hO5, hB5⟩
  obtain ⟨g5, cap5, rfl, hc5, hg5, hby5⟩ := hO5.shape (encL_ne _)
  have hO6 := H4.out.2.2.1.below hB5 (Nat.le_refl _)
  have hB6 := H4.out.2.2.2.2.trans (hB5.mono H4.out.2.2.2.2.size)
  obtain ⟨v7, w7, E7, hO7, hG7⟩ := append_own (m := encL [.text s]) hO6 hB6.size g5 0 cap5 hby5 (by have := H4.out.2.2.2.1; omega)
  obtain ⟨g7, cap7, rfl, hc7, hg7, hby7⟩ := hO7.shape (by intro h; rw [List.append_eq_nil_iff] at h; exact encL_ne _ h.2)
  have hB7 := hB6.trans (hG7.below hO6 hB6.size)
  have q2 := H4.out.2.1.below (hB5.mono (Nat.le_refl _)) H4.out.2.1.lt
  have q7 := q2.below (hG7.below hO6 hB6.size) (by rw [Hs2.out]; omega)
  have qB7 := (H4.out.1.trans (hB5.mono H4.out.1.size)).trans ((hG7.below hO6 hB6.size).mono (by rw [Hs2.out]; omega))
  have CT := Lib.hid (rtag_any derive_ (by decide) (by decide) (k ++ encL [.text s]) (by have := H4.out.2.2.2.1; simp; omega) g7 0 cap7 w7 hby7 (own_lt hO7 g7 rfl))
  have H7 := Lib.hid (And.intro q7 qB7)
  obtain ⟨n7, hn7⟩ : ∃ n, n = (k ++ encL [.text s]).length := ⟨_, rfl⟩
  rw [← hn7] at E7 CT
  obtain ⟨n5, hn5⟩ : ∃ n, n = (encL [.text s]).length := ⟨_, rfl⟩
  rw [← hn5] at E7 ⊢
  clear hn7 hn5 hO5 hB5 hc5 hg5 hby5 hO6 hB6 hO7 hG7 hc7 hg7 hby7 hB7 q2 q7 qB7 CP
  go_wp2_with fail
  refine CT.out.mono ?_
  rintro e w8 ⟨rfl, hB8⟩
  have r8 := H7.out.1.below hB8 H7.out.1.lt
  obtain ⟨d2, hd2⟩ : ∃ d, d = (Chart.tagged derive_.data.toList (k ++ encL [.text s])).map u8v := ⟨_, rfl⟩
  rw [← hd2]
  have hdl2 : d2.length = 32 := by rw [hd2, List.length_map, Chart.tagged_length]
  have E8 := r8.stores (P := Tryz.prog) d2 (by rw [hdl2]; rfl) (by rw [hd2]; exact oneCell_bytes _)
  obtain ⟨w9, hw9⟩ : ∃ x, x = w8.setRow (w.heap.size + 1) d2.toArray := ⟨_, rfl⟩
  rw [← hw9] at E8
  have hR9 : RowIs w9 (w.heap.size + 1) 24 d2 := by rw [hw9]; exact r8.setRow _
  have hB9 : Below w.heap.size w w9 := by rw [hw9]; exact below_setRow (H7.out.2.trans (hB8.mono H7.out.2.size)) (by omega) _
  have Hd2 := Lib.hid hd2
  clear hd2 hw9 r8 hB8 CT E7
  go_wp2_with fail
  refine bodyPost_ret (results_cell_row (d := .array 32 5) rfl _ _ (w.heap.size + 1) _ d2.toArray (0, 0) rfl hR9 (by kernel_rfl) rfl (by rw [List.size_toArray, hdl2]; kernel_rfl)) rfl ?_
  exact ⟨by rw [Hd2.out]; rfl, hB9⟩

theorem rscalar7_nil (k : List UInt8) (hk : k.length = 32) (s : ByteArray) (hs : s.data.toList.length < 1000000) (w : World) :
    Calls Tryz.prog 39 #[.agg (k.map u8v).toArray, .string s] w fun e w' => e = .returned (.int .i64 (dscalar k s : Nat)) ∧ Below w.heap.size w w' := by
  obtain ⟨w1, hw1⟩ : ∃ x, x = w.alloc (.cells (k.map u8v).toArray 24) := ⟨_, rfl⟩
  have r1 : RowIs w1 w.heap.size 24 (k.map u8v) := by rw [hw1]; exact RowIs.new w _ _
  have hB1 : Below w.heap.size w w1 := by rw [hw1]; exact (Below.refl _ w).alloc (Nat.le_refl _) _
  have L1 := r1.loads (P := Tryz.prog) 32 (by rw [List.length_map, hk])
  have C := Lib.hid (rexpand_nil k hk s hs w1)
  obtain ⟨x, hx⟩ : ∃ x, x = expand0 k derive_.data.toList s := ⟨_, rfl⟩
  rw [← hx] at C
  have hxl : x.length = 32 := by rw [hx]; exact expand0_length _ _ _
  obtain ⟨c, hc⟩ : ∃ c, c = k.map u8v := ⟨_, rfl⟩
  rw [← hc] at L1 C ⊢
  obtain ⟨d, hd⟩ : ∃ d, d = bytesV x := ⟨_, rfl⟩
  rw [← hd] at C
  have hdl : d.length = 32 := by rw [hd]; unfold bytesV; rw [List.length_map, hxl]
  have H := Lib.hid (And.intro hB1 (And.intro hd hx))
  have Hd1 := Lib.hid (show ∀ v ∈ d, v.oneCell' = true by rw [hd]; exact oneCell_bytes _)
  rw [← hc] at hw1
  clear hB1 r1 hc hd hx
  go_enter Tryz.func39, Tryz.ntmps39
  go_upto_region 1 with fail
  rw [← hw1]
  clear hw1
  go_wp2_with fail
  refine C.out.mono ?_
  rintro e w2 ⟨rfl, hB2⟩
  obtain ⟨w3, E3, hR3, hB3⟩ := fresh_store (P := Tryz.prog) w2 24 #[.int .u8 0, .int .u8 0, .int .u8 0, .int .u8 0, .int .u8 0, .int .u8 0, .int .u8 0, .int .u8 0, .int .u8 0, .int .u8 0, .int .u8 0, .int .u8 0, .int .u8 0, .int .u8 0, .int .u8 0, .int .u8 0, .int .u8 0, .int .u8 0, .int .u8 0, .int .u8 0, .int .u8 0, .int .u8 0, .int .u8 0, .int .u8 0, .int .u8 0, .int .u8 0, .int .u8 0, .int .u8 0, .int .u8 0, .int .u8 0, .int .u8 0, .int .u8 0] d (by rw [hdl]; rfl) Hd1.out
  have hby : BytesAt w3 w2.heap.size 0 x := fun i hi => (hR3.cell (0 + i)).trans (by rw [H.out.2.1]; simp [bytesV, hi])
  have hB := H.out.1.trans ((hB2.mono H.out.1.size).trans (hB3.mono (Nat.le_trans H.out.1.size hB2.size)))
  have C2 := Lib.hid (rscalar4_any scalar_ (by decide) (by decide) x (by omega) w2.heap.size 0 32 w3 hby hR3.lt)
  rw [hxl] at C2
  have H3 := Lib.hid hB
  clear hB2 hR3 hB3 hby hB C L1
  go_wp2_with fail
  refine C2.out.mono ?_
  rintro e w4 ⟨rfl, hB4⟩
  have H4 := Lib.hid (H3.out.trans (hB4.mono H3.out.size))
  clear hB4 E3
  go_wp2_with fail
  go_ret
  refine ⟨?_, H4.out⟩
  rw [H.out.2.2]
  rfl
end Go.Proofs.YtgklcfipgdbbgaaGreatDoor
