/- The reference's digest: Tagged. -/
import Derived.Test.YtejjincnghmbbaaGreatDoorMRs4
namespace Go.Proofs.YtejjincnghmbbaaGreatDoor
open Go.RowKit
attribute [-go_sem] Builtin.append_

set_option maxRecDepth 100000 in
set_option maxHeartbeats 4000000 in
theorem rtag_any (tag : ByteArray) (ht0 : tag.data.toList ≠ []) (ht : tag.data.toList.length < 1099511627776) (l : List UInt8) (hlen : l.length < 1099511627000) (g off cap : Nat) (w : World) (hb : BytesAt w g off l) (hg : g < w.heap.size) :
    Calls Tryz.prog 53 #[.string tag, .slice (some ⟨g, off, none⟩) l.length cap] w fun e w' => e = .returned (.agg ((Chart.tagged tag.data.toList l).map u8v).toArray) ∧ Below w.heap.size w w' := by
  obtain ⟨wa, hwa⟩ : ∃ x, x = w.alloc (.cells #[.int .u8 0, .int .u8 0, .int .u8 0, .int .u8 0, .int .u8 0, .int .u8 0, .int .u8 0, .int .u8 0, .int .u8 0, .int .u8 0, .int .u8 0, .int .u8 0, .int .u8 0, .int .u8 0, .int .u8 0, .int .u8 0, .int .u8 0, .int .u8 0, .int .u8 0, .int .u8 0, .int .u8 0, .int .u8 0, .int .u8 0, .int .u8 0, .int .u8 0, .int .u8 0, .int .u8 0, .int .u8 0, .int .u8 0, .int .u8 0, .int .u8 0, .int .u8 0] 59) := ⟨_, rfl⟩
  have hRa : RowIs wa w.heap.size 59 (List.replicate 32 (u8v 0)) := by rw [hwa]; exact RowIs.new w (List.replicate 32 (u8v 0)) _
  have hBa : Below w.heap.size w wa := by rw [hwa]; exact (Below.refl _ w).alloc (Nat.le_refl _) _
  obtain ⟨capt, w1, E1, hbs1, hB1⟩ := conv_bytes tag wa
  obtain ⟨_, c9, he, _, hx⟩ := hbs1.ex
  obtain ⟨g1, off1, ha, hg1, hby⟩ := hx ht0
  injection he with e1 e2 e3
  subst e1
  subst e3
  injection ha with ha
  injection ha with h1 h2
  subst h1
  subst h2
  have C1 := Lib.hid (rsha_any _ ht wa.heap.size 0 capt w1 hby hg1)
  obtain ⟨sh, hsh⟩ : ∃ sh, sh = Chart.sha tag.data.toList := ⟨_, rfl⟩
  have hshl : sh.length = 32 := by rw [hsh, Chart.sha_length]
  rw [← hsh] at C1
  have Hsh := Lib.hid hsh
  clear hsh
  have h1 := hRa.below hB1 hRa.lt
  have h2 := hBa.trans (hB1.mono hBa.size)
  have HA := Lib.hid (And.intro h1 (And.intro h2 (And.intro hb hg)))
  have es : wa.heap.size = w.heap.size + 1 := by rw [hwa]; simp
  rw [es] at E1 C1
  have et : tag.data.toList.length = tag.size := by rw [Array.length_toList]; rfl
  rw [et] at E1 C1
  rw [hwa] at E1
  clear es et hbs1 hRa hBa hB1 hx hby hg1 h1 h2 hb hg hwa
  go_enter Tryz.func53, Tryz.ntmps53
  go_upto_region 1 with fail
  go_wp2_with fail
  refine Calls.mono C1.out ?_
  rintro e w2 ⟨rfl, hB2⟩
  have hs1 := HA.out.2.1.size
  have r2 := HA.out.1.below hB2 HA.out.1.lt
  have hBw2 := HA.out.2.1.trans (hB2.mono hs1)
  obtain ⟨d1, hd1⟩ : ∃ d, d = sh.map u8v := ⟨_, rfl⟩
  rw [← hd1]
  have hdl : d1.length = 32 := by rw [hd1, List.length_map, hshl]
  obtain ⟨w3, E2, hR3, hB3⟩ := fresh_store (P := Tryz.prog) w2 59 #[.int .u8 0, .int .u8 0, .int .u8 0, .int .u8 0, .int .u8 0, .int .u8 0, .int .u8 0, .int .u8 0, .int .u8 0, .int .u8 0, .int .u8 0, .int .u8 0, .int .u8 0, .int .u8 0, .int .u8 0, .int .u8 0, .int .u8 0, .int .u8 0, .int .u8 0, .int .u8 0, .int .u8 0, .int .u8 0, .int .u8 0, .int .u8 0, .int .u8 0, .int .u8 0, .int .u8 0, .int .u8 0, .int .u8 0, .int .u8 0, .int .u8 0, .int .u8 0] d1 (by rw [hdl]; rfl) (by rw [hd1]; exact oneCell_bytes _)
  obtain ⟨g2, hg2⟩ : ∃ x, x = w2.heap.size := ⟨_, rfl⟩
  rw [← hg2] at hR3
  have hgl : g2 < w3.heap.size := hR3.lt
  have r3 := r2.below hB3 r2.lt
  have hBw3 := hBw2.trans (hB3.mono hBw2.size)
  have hwl3 := r3.lt
  rw [hd1] at hR3
  have hby : BytesAt w3 g2 0 (sh) := fun i hi => (hR3.cell (0 + i)).trans (by simp [hi])
  -- the joined bytes
  obtain ⟨w4, hw4⟩ : ∃ x, x = w3.alloc (.cells #[] 5) := ⟨_, rfl⟩
  have hB4 : Below w3.heap.size w3 w4 := by rw [hw4]; exact (Below.refl _ w3).alloc (Nat.le_refl _) _
  have hO4 : Own w3.heap.size w4 (.slice (some ⟨w3.heap.size, 0, none⟩) 0 0) [] := by rw [hw4]; exact Own.empty w3 (Nat.le_refl _)
  obtain ⟨v5, w5, E5, hO5, hG5⟩ := append_own (m := sh) hO4 hB4.size g2 0 32 (hby.below hB4 hgl) (by rw [hshl]; simp)
  rw [hshl, hw4] at E5
  have hB5 := hB4.trans (hG5.below hO4 hB4.size)
  have hby5 := (HA.out.2.2.1.below (hBw3.trans (hB5.mono (Nat.le_of_lt hwl3))) HA.out.2.2.2)
  rw [List.nil_append] at hO5
  obtain ⟨v6, w6, E6, hO6, hG6⟩ := append_own (m := l) hO5 hB5.size g off cap hby5 (by omega)
  have hB6 := hB5.trans (hG6.below hO5 hB5.size)
  obtain ⟨g6, cap6, rfl, hc6, hg6, hby6⟩ := hO6.shape (by intro h; rw [List.append_eq_nil_iff] at h; rw [h.1] at hshl; cases hshl)
  have C2 := Lib.hid (rsha_any (sh ++ l) (by simp; omega) g6 0 cap6 w6 hby6 (own_lt hO6 g6 rfl))
  have r6 := r3.below hB6 hwl3
  have hBw6 := hBw3.trans (hB6.mono (Nat.le_of_lt hwl3))
  have H6 := Lib.hid (And.intro r6 (And.intro hBw6 hg2))
  obtain ⟨n6, hn6⟩ : ∃ n, n = (sh ++ l).length := ⟨_, rfl⟩
  rw [← hn6] at E6 C2
  obtain ⟨n, hn⟩ : ∃ n, n = l.length := ⟨_, rfl⟩
  rw [← hn] at E6 ⊢
  rw [hg2] at E5
  clear r6 hBw6 hn6 hn hby6 hg6 hc6 hB6 hG6 hO6 hby5 hB5 hG5 hO5 hO4 hB4 hw4 hby hBw3 r3 hgl hg2 hR3 hd1 hBw2 r2 hs1 hB2 hB3 E1 C1
  go_wp2_with fail
  refine C2.out.mono ?_
  rintro e w7 ⟨rfl, hB7⟩
  have r7 := H6.out.1.below hB7 H6.out.1.lt
  obtain ⟨d2, hd2⟩ : ∃ d, d = (Chart.sha (sh ++ l)).map u8v := ⟨_, rfl⟩
  rw [← hd2]
  have hdl2 : d2.length = 32 := by rw [hd2, List.length_map, Chart.sha_length]
  have E8 := r7.stores (P := Tryz.prog) d2 (by rw [hdl2]; rfl) (by rw [hd2]; exact oneCell_bytes _)
  obtain ⟨w8, hw8⟩ : ∃ x, x = w7.setRow w.heap.size d2.toArray := ⟨_, rfl⟩
  rw [← hw8] at E8
  have hR8 : RowIs w8 w.heap.size 59 d2 := by rw [hw8]; exact r7.setRow _
  have hB8 : Below w.heap.size w w8 := by rw [hw8]; exact below_setRow (H6.out.2.1.trans (hB7.mono H6.out.2.1.size)) (Nat.le_refl _) _
  have Hd2 := Lib.hid hd2
  clear hd2 hw8 r7 hB7 C2
  go_wp2_with fail
  refine bodyPost_ret (results_cell_row (d := .array 32 5) rfl _ _ w.heap.size _ d2.toArray (0, 0) rfl hR8 (by kernel_rfl) rfl (by rw [List.size_toArray, hdl2]; kernel_rfl)) rfl ?_
  refine ⟨?_, hB8⟩
  rw [Hd2.out, Hsh.out]
  rfl
end Go.Proofs.YtejjincnghmbbaaGreatDoor
