/- digest.Tagged: the digest of some bytes under a tag. -/
import Derived.Laws.IdiomStrings
import Derived.Laws.Rows
import Derived.Test.YtejjincnghmbbaaGreatDoorM5
namespace Go.Proofs.YtejjincnghmbbaaGreatDoor
open Go.RowKit

abbrev bytesV (l : List UInt8) : List Value := l.map u8v

theorem oneCell_bytes (l : List UInt8) : ∀ v ∈ l.map u8v, v.oneCell' = true := by
  intro v hv
  rw [List.mem_map] at hv
  obtain ⟨c, _, rfl⟩ := hv
  rfl

theorem conv_bytes (t : ByteArray) (w : World) : ∃ cap w', (convert 9 56 (.string t)).run Tryz.prog w = .ok (.slice (some ⟨w.heap.size, 0, none⟩) t.data.toList.length cap) w' ∧
    Bs w'.heap.size w' (.slice (some ⟨w.heap.size, 0, none⟩) t.data.toList.length cap) t.data.toList ∧ Below w.heap.size w w' := by
  have := run_bytes_of_string (P := Tryz.prog) w 9 56 5 t (by kernel_rfl) (by kernel_rfl) (by kernel_rfl)
  have hsz : t.size = t.data.toList.length := by rw [Array.length_toList]; rfl
  have hge := grownCap_ge w t.size 0 5
  obtain ⟨C, hC⟩ : ∃ C, C = grownCap w t.size 0 5 := ⟨_, rfl⟩
  rw [← hC] at this hge
  rw [hsz] at this hge
  obtain ⟨fr, hfr⟩ : ∃ x, x = ((bytesRow t C).size, (bytesRow t C).size + 1) := ⟨_, rfl⟩
  rw [← hfr] at this
  refine ⟨C, _, this, ?_, ?_⟩
  · refine ⟨_, C, rfl, hge, fun hl => ⟨w.heap.size, 0, rfl, ?_, fun i hi => ?_⟩⟩
    · have : (w.drew.alloc (.cells (bytesRow t C) 5 fr)).heap.size = w.heap.size + 1 := by simp
      omega
    · have hb : (w.drew.alloc (.cells (bytesRow t C) 5 fr)).heap[w.heap.size]? = some (.cells (bytesRow t C) 5 fr) := heap_new w.drew _
      rw [cell_of_row _ _ _ _ _ _ hb, Nat.zero_add]
      unfold bytesRow
      rw [Array.getElem?_append_left (by simp at hi; simpa using hi)]
      simp at hi
      simp [hi]
      rfl
  · exact (show Below w.heap.size w w.drew from ⟨rfl, rfl, rfl, Nat.le_refl _, fun _ _ => rfl⟩).alloc (Nat.le_refl _) _

theorem fresh_store {P : Program} (w : World) (T : TypeId) (zs : Array Value) (vs : List Value) (hz : vs.length = zs.size) (h1 : ∀ v ∈ vs, v.oneCell' = true) :
    ∃ w3, (storeCells ⟨w.heap.size, 0, none⟩ vs 0).run P (w.alloc (.cells zs T)) = .ok () w3 ∧ RowIs w3 w.heap.size T vs ∧ Below w.heap.size w w3 := by
  have h0 : RowIs (w.alloc (.cells zs T)) w.heap.size T zs.toList := RowIs.new w zs.toList _
  exact ⟨_, h0.stores vs (by simpa using hz) h1, h0.setRow _, below_setRow ((Below.refl _ w).alloc (Nat.le_refl _) _) (Nat.le_refl _) _⟩

set_option maxRecDepth 100000 in
set_option maxHeartbeats 4000000 in
theorem tagged_any (tag : ByteArray) (l : List UInt8) (v : Value) (w : World) (h : Bs w.heap.size w v l) (hlen : l.length < 2 ^ 47) (ht : tag.data.toList.length < 2 ^ 47) (hl : Laid w) :
    Calls Tryz.prog 47 #[.string tag, v] w fun e w' => e = .returned (.agg (bytesV (Chart.tagged tag.data.toList l)).toArray) ∧ Below w.heap.size w w' := by
  obtain ⟨a, c, rfl, -, -⟩ := h.ex
  have H := Lib.hid h
  have Hl := Lib.hid hl
  clear h hl
  obtain ⟨wa, hwa⟩ : ∃ x, x = w.alloc (.cells #[.int .u8 0, .int .u8 0, .int .u8 0, .int .u8 0, .int .u8 0, .int .u8 0, .int .u8 0, .int .u8 0, .int .u8 0, .int .u8 0, .int .u8 0, .int .u8 0, .int .u8 0, .int .u8 0, .int .u8 0, .int .u8 0, .int .u8 0, .int .u8 0, .int .u8 0, .int .u8 0, .int .u8 0, .int .u8 0, .int .u8 0, .int .u8 0, .int .u8 0, .int .u8 0, .int .u8 0, .int .u8 0, .int .u8 0, .int .u8 0, .int .u8 0, .int .u8 0] 59) := ⟨_, rfl⟩
  have hRa : RowIs wa w.heap.size 59 (List.replicate 32 (u8v 0)) := by rw [hwa]; exact RowIs.new w (List.replicate 32 (u8v 0)) _
  have hBa : Below w.heap.size w wa := by rw [hwa]; exact (Below.refl _ w).alloc (Nat.le_refl _) _
  have hwl := hRa.lt
  obtain ⟨cap, w1, E1, hbs1, hB1⟩ := conv_bytes tag wa
  have hla := Hl.out.below hBa Hl.out.numLt Hl.out.startLt
  have hl1 := hla.below hB1 hla.numLt hla.startLt
  have C1 := Lib.hid (sum_bs hbs1 (by omega) hl1)
  have HA := Lib.hid (And.intro hRa (And.intro hBa (And.intro hB1 (And.intro hla hl1))))
  obtain ⟨g1, hg1⟩ : ∃ x, x = wa.heap.size := ⟨_, rfl⟩
  rw [← hg1] at E1 C1
  have Hg1 := Lib.hid hg1
  clear hbs1 hRa hBa hB1 hla hl1 hg1
  go_enter Tryz.func47, Tryz.ntmps47
  go_upto_region 1 with fail
  rw [← hwa]
  clear hwa
  go_wp2_with fail
  refine C1.out.mono ?_
  rintro e w2 ⟨rfl, hB2⟩
  obtain ⟨d1, hd1⟩ : ∃ d, d = (Chart.sha tag.data.toList).map u8v := ⟨_, rfl⟩
  rw [← hd1]
  have hdl : d1.length = 32 := by rw [hd1, List.length_map, Chart.sha_length]
  obtain ⟨w3, E2, hR3, hB3⟩ := fresh_store (P := Tryz.prog) w2 59 #[.int .u8 0, .int .u8 0, .int .u8 0, .int .u8 0, .int .u8 0, .int .u8 0, .int .u8 0, .int .u8 0, .int .u8 0, .int .u8 0, .int .u8 0, .int .u8 0, .int .u8 0, .int .u8 0, .int .u8 0, .int .u8 0, .int .u8 0, .int .u8 0, .int .u8 0, .int .u8 0, .int .u8 0, .int .u8 0, .int .u8 0, .int .u8 0, .int .u8 0, .int .u8 0, .int .u8 0, .int .u8 0, .int .u8 0, .int .u8 0, .int .u8 0, .int .u8 0] d1 (by rw [hdl]; rfl) (by rw [hd1]; exact oneCell_bytes _)
  obtain ⟨g2, hg2⟩ : ∃ x, x = w2.heap.size := ⟨_, rfl⟩
  have Hd1 := Lib.hid hd1
  have Hg2 := Lib.hid hg2
  clear hd1 hg2
  go_upto_region 2 with fail
  rw [← Hg2.out] at hR3
  rw [← Hg2.out]
  clear E2 E1
  obtain ⟨n, hn⟩ : ∃ n, n = l.length := ⟨_, rfl⟩
  rw [← hn]
  obtain ⟨w4, hw4⟩ : ∃ x, x = w3.alloc (.cells #[.slice (some ⟨g2, 0, none⟩) 32 32, .slice a n c] 56) := ⟨_, rfl⟩
  have hR4 : RowIs w4 w3.heap.size 56 [.slice (some ⟨g2, 0, none⟩) 32 32, .slice a n c] := by rw [hw4]; exact RowIs.new w3 [.slice (some ⟨g2, 0, none⟩) 32 32, .slice a n c] _
  have hB4 : Below w3.heap.size w3 w4 := by rw [hw4]; exact (Below.refl _ w3).alloc (Nat.le_refl _) _
  have hs0 := hB2.size
  have hs1 := hB3.size
  have hs2 := hB4.size
  have hs3 := HA.out.2.2.1.size
  have hbs1 : Bs w4.heap.size w4 (.slice (some ⟨g2, 0, none⟩) 32 32) (Chart.sha tag.data.toList) := by
    have hR5 := hR3.below hB4 hR3.lt
    refine Bs.row hR5 hR5.lt _ (Chart.sha_length _) (Nat.le_refl _) (fun i hi => ?_)
    rw [Hd1.out, Nat.zero_add]
    simp [hi]
  have hbs2 : Bs w4.heap.size w4 (.slice a n c) l := by
    rw [hn]
    have hb := HA.out.2.1.trans ((HA.out.2.2.1.mono (Nat.le_of_lt hwl)).trans ((hB2.mono (by omega)).trans ((hB3.mono (by omega)).trans (hB4.mono (by omega)))))
    exact (H.out.below hb).mono (by omega)
  have C2 := Lib.hid (concat_two _ _ _ _ w3.heap.size 56 w4 hbs1 hbs2 hR4 (by rw [Chart.sha_length]; omega) (by rw [Chart.sha_length]; omega))
  have hrow : Hid (RowIs w4 w.heap.size 59 (List.replicate 32 (u8v 0))) := by
    have hb := (HA.out.2.2.1.trans ((hB2.mono (by omega)).trans ((hB3.mono (by omega)).trans (hB4.mono (by omega)))))
    exact Lib.hid (HA.out.1.below hb hwl)
  have hall : Hid (Below w.heap.size w w4 ∧ Laid w4) := by
    have hb := HA.out.2.1.trans ((HA.out.2.2.1.mono (Nat.le_of_lt hwl)).trans ((hB2.mono (by omega)).trans ((hB3.mono (by omega)).trans (hB4.mono (by omega)))))
    exact Lib.hid ⟨hb, Hl.out.below hb Hl.out.numLt Hl.out.startLt⟩
  have hwl4 : w.heap.size < w4.heap.size := by omega
  have Hn := Lib.hid hn
  clear hbs1 hbs2 hR3 hR4 hB2 hB3 hB4 hn hs0 hs1 hs2 hs3 C1
  go_wp2_with fail
  rw [← hw4]
  clear hw4
  refine C2.out.mono ?_
  rintro e w5 ⟨v5, rfl, hbs5, hB5⟩
  have hla5 := hall.out.2.below hB5 hall.out.2.numLt hall.out.2.startLt
  have C3 := Lib.hid (sum_bs hbs5 (by rw [List.length_append, Chart.sha_length]; omega) hla5)
  have hrow5 := Lib.hid (hrow.out.below hB5 hwl4)
  have hall5 := Lib.hid (hall.out.1.trans (hB5.mono (Nat.le_of_lt hwl4)))
  have hwl5 : w.heap.size < w5.heap.size := Nat.lt_of_lt_of_le hwl4 hB5.size
  clear hbs5 hB5 hla5 C2
  go_wp2_with fail
  refine C3.out.mono ?_
  rintro e w6 ⟨rfl, hB6⟩
  have hrow6 := hrow5.out.below hB6 hwl5
  obtain ⟨d2, hd2⟩ : ∃ d, d = (Chart.sha (Chart.sha tag.data.toList ++ l)).map u8v := ⟨_, rfl⟩
  rw [← hd2]
  have hdl2 : d2.length = 32 := by rw [hd2, List.length_map, Chart.sha_length]
  have E3 := hrow6.stores (P := Tryz.prog) d2 (by rw [hdl2]; rfl) (by rw [hd2]; exact oneCell_bytes _)
  obtain ⟨w7, hw7⟩ : ∃ x, x = w6.setRow w.heap.size d2.toArray := ⟨_, rfl⟩
  rw [← hw7] at E3
  have hR7 : RowIs w7 w.heap.size 59 d2 := by rw [hw7]; exact hrow6.setRow _
  have hB7 : Below w.heap.size w w7 := by rw [hw7]; exact below_setRow (hall5.out.trans (hB6.mono (Nat.le_of_lt hwl5))) (Nat.le_refl _) _
  have Hd2 := Lib.hid hd2
  clear hd2 hw7 hrow6 hB6 C3
  go_wp2_with fail
  refine bodyPost_ret (results_cell_row (d := .array 32 5) rfl _ _ w.heap.size _ d2.toArray (0, 0) rfl hR7 (by kernel_rfl) rfl (by rw [List.size_toArray, hdl2]; kernel_rfl)) rfl ?_
  refine ⟨?_, hB7⟩
  rw [Hd2.out]
  rfl
end Go.Proofs.YtejjincnghmbbaaGreatDoor
