/- The reference's codec at flat lists: encode, Encode. -/
import Derived.Test.YtgklcfipgdbbgaaGreatDoorM34
namespace Go.Proofs.YtgklcfipgdbbgaaGreatDoor
open Go.RowKit
attribute [-go_sem] Builtin.append_

theorem cell_keep {w w' : World} {b i : Nat} {v : Value} (h : Below w.heap.size w w') (k : w.cell? ⟨b, i, none⟩ = some v) : w'.cell? ⟨b, i, none⟩ = some v :=
  ((bcell h).1 _ _ (World.block_lt_of_cell? w _ k)).trans k

theorem cell_on {w : World} {b i : Nat} {v : Value} (o : Obj) (k : w.cell? ⟨b, i, none⟩ = some v) : (w.alloc o).cell? ⟨b, i, none⟩ = some v :=
  (cell_alloc _ (World.block_lt_of_cell? w _ k)).trans k

theorem app_a (wb : World) (c : UInt8) {w2 : World} (hB : Below (wb.alloc (.cells #[.int .u8 (bn c)] 5)).drew.heap.size (wb.alloc (.cells #[.int .u8 (bn c)] 5)).drew w2) (m : List UInt8) (g2 cap2 : Nat) (hby : BytesAt w2 g2 0 m) (hm : m.length ≤ 1000) :
    ∃ v3 w3, (Builtin.append_ #[56, 56] 56 #[.slice (some ⟨wb.heap.size, 0, none⟩) 1 1, .slice (some ⟨g2, 0, none⟩) m.length cap2]).run Tryz.prog w2 = .ok v3 w3 ∧ Own wb.heap.size w3 v3 ([c] ++ m) ∧ Below wb.heap.size wb w3 := by
  have hO1 : Own wb.heap.size (wb.alloc (.cells #[.int .u8 (bn c)] 5)) (.slice (some ⟨wb.heap.size, 0, none⟩) 1 1) [c] := Own.one wb (Nat.le_refl _) c
  have hb1 : Below wb.heap.size wb (wb.alloc (.cells #[.int .u8 (bn c)] 5)) := (Below.refl _ wb).alloc (Nat.le_refl _) _
  have hb2 := (drew_below (wb.alloc (.cells #[.int .u8 (bn c)] 5))).trans hB
  have hO2 := hO1.below hb2 (Nat.le_refl _)
  have hb := hb1.trans (hb2.mono hb1.size)
  obtain ⟨v3, w3, E3, hO3, hG3⟩ := append_own (m := m) hO2 hb.size g2 0 cap2 hby (by simp; omega)
  exact ⟨v3, w3, E3, hO3, hb.trans (hG3.below hO2 hb.size)⟩
theorem app_b (wb : World) (c : UInt8) {w2 : World} (hB : Below wb.drew.heap.size wb.drew w2) (m : List UInt8) (g2 cap2 : Nat) (hby : BytesAt w2 g2 0 m) (hg : g2 < w2.heap.size) (hm : m.length ≤ 1000) :
    ∃ v3 w3, (Builtin.append_ #[56, 56] 56 #[.slice (some ⟨w2.heap.size, 0, none⟩) 1 1, .slice (some ⟨g2, 0, none⟩) m.length cap2]).run Tryz.prog (w2.alloc (.cells #[.int .u8 (bn c)] 5)) = .ok v3 w3 ∧ Own wb.heap.size w3 v3 ([c] ++ m) ∧ Below wb.heap.size wb w3 := by
  have hb1 := (drew_below wb).trans hB
  have hO1 : Own wb.heap.size (w2.alloc (.cells #[.int .u8 (bn c)] 5)) (.slice (some ⟨w2.heap.size, 0, none⟩) 1 1) [c] := Own.one w2 hb1.size c
  have hb2 : Below w2.heap.size w2 (w2.alloc (.cells #[.int .u8 (bn c)] 5)) := (Below.refl _ w2).alloc (Nat.le_refl _) _
  have hb := hb1.trans (hb2.mono hb1.size)
  obtain ⟨v3, w3, E3, hO3, hG3⟩ := append_own (m := m) hO1 hb.size g2 0 cap2 (hby.below hb2 hg) (by simp; omega)
  exact ⟨v3, w3, E3, hO3, hb.trans (hG3.below hO1 hb.size)⟩

theorem It.enc_ne (x : It) : x.enc ≠ [] := by
  cases x <;> simp [It.enc]

set_option maxRecDepth 20000 in
theorem rencode_int (n : Int) (h0 : -9223372036854775808 ≤ n) (h1 : n ≤ 9223372036854775807) (w : World) : Calls Tryz.prog 97 #[.agg #[.int .i64 1, .int .i64 n, .string ⟨#[]⟩, .slice none 0 0]] w (Made w.heap.size (It.enc (.int n)) w) := by
  obtain ⟨wb, hwb⟩ : ∃ x, x = w.alloc (.cells #[.int .i64 1, .int .i64 n, .string ⟨#[]⟩, .slice none 0 0] 59) := ⟨_, rfl⟩
  have hRb : RowIs wb w.heap.size 59 [.int .i64 1, .int .i64 n, .string ⟨#[]⟩, .slice none 0 0] := by rw [hwb]; exact RowIs.new w _ _
  have hBb : Below w.heap.size w wb := by rw [hwb]; exact (Below.refl _ w).alloc (Nat.le_refl _) _
  have c0 : wb.cell? ⟨w.heap.size, 0, none⟩ = some (.int .i64 1) := hRb.cell 0
  obtain ⟨w1, hw1⟩ : ∃ x, x = wb.alloc (.cells #[.int .u8 1] 5) := ⟨_, rfl⟩
  have hO1 : Own w.heap.size w1 (.slice (some ⟨wb.heap.size, 0, none⟩) 1 1) [1] := by rw [hw1]; exact Own.one wb hBb.size 1
  have hB1 : Below w.heap.size w w1 := by rw [hw1]; exact hBb.alloc hBb.size _
  have hwbs : wb.heap.size = w.heap.size + 1 := by rw [hwb]; simp
  have c1 : w1.cell? ⟨w.heap.size, 1, none⟩ = some (.int .i64 n) := by
    rw [hw1]; exact (cell_alloc _ hRb.lt).trans (hRb.cell 1)
  have CU := Lib.hid (runsigned_any n h0 h1)
  have CN := Lib.hid (rnumeral_any (zig n) (zig_eq n).2)
  have HN := Lib.hid (And.intro hO1 (And.intro hB1 (numB_length 10 (zig n) (by have := (zig_eq n).2; omega))))
  rw [hwbs] at HN
  clear hRb hBb hO1 hB1
  go_enter Tryz.func97, Tryz.ntmps97
  go_upto_region 1 with fail
  rw [← hwb]
  clear hwb
  rw [hw1] at c1
  go_wp2_with fail
  refine (CU.out _).mono ?_
  rintro e w2 ⟨rfl, rfl⟩
  go_wp2_with fail
  rw [← hw1]
  clear hw1
  refine (CN.out w1).mono ?_
  rintro e w2 ⟨v2, rfl, hO2, hB2⟩
  obtain ⟨g2, cap2, rfl, hc2, hg2, hby⟩ := hO2.shape (numB_ne _)
  have hO1 := HN.out.1.below hB2 (Nat.le_refl _)
  have hBw := HN.out.2.1.trans (hB2.mono HN.out.2.1.size)
  obtain ⟨v3, w3, E3, hO3, hG3⟩ := append_own (m := numB (zig n)) hO1 hBw.size g2 0 cap2 hby (by have := HN.out.2.2; simp; omega)
  have hB3 := hBw.trans (hG3.below hO1 hBw.size)
  have H3 := Lib.hid (And.intro hO3 hB3)
  clear hO3 hB3 hG3 hO1 hBw hby hg2 hc2 hO2 hB2 CN
  go_wp2_with fail
  go_ret
  exact ⟨_, rfl, H3.out.1, H3.out.2⟩

set_option maxRecDepth 20000 in
set_option maxHeartbeats 1000000 in
theorem rencode_text (s : ByteArray) (hs : s.data.toList.length < 1000000) (w : World) : Calls Tryz.prog 97 #[.agg #[.int .i64 2, .int .i64 0, .string s, .slice none 0 0]] w (Made w.heap.size (It.enc (.text s)) w) := by
  have hsz : s.size = s.data.toList.length := by rw [Array.length_toList]; rfl
  obtain ⟨wb, hwb⟩ : ∃ x, x = w.alloc (.cells #[.int .i64 2, .int .i64 0, .string s, .slice none 0 0] 59) := ⟨_, rfl⟩
  have hRb : RowIs wb w.heap.size 59 [.int .i64 2, .int .i64 0, .string s, .slice none 0 0] := by rw [hwb]; exact RowIs.new w _ _
  have hBb : Below w.heap.size w wb := by rw [hwb]; exact (Below.refl _ w).alloc (Nat.le_refl _) _
  have c0 : wb.cell? ⟨w.heap.size, 0, none⟩ = some (.int .i64 2) := hRb.cell 0
  have c2 : wb.cell? ⟨w.heap.size, 2, none⟩ = some (.string s) := hRb.cell 2
  have hwbs : wb.heap.size = w.heap.size + 1 := by rw [hwb]; simp
  have CN := Lib.hid (rnumeral_any s.size (by omega))
  have e1 : IntKind.u64.wrap (s.size : Int) = (s.size : Int) := by rw [IntKind.wrap_u64]; omega
  have hne := World.new_ne wb ⟨w.heap.size, 2, none⟩ c2
  replace hwbs := Lib.hid hwbs
  have HN := Lib.hid (And.intro hBb (And.intro hsz (And.intro hs (numB_length 10 s.size (by omega)))))
  clear hRb hBb hs hsz
  go_enter Tryz.func97, Tryz.ntmps97
  go_upto_region 1 with fail
  rw [← hwb]
  clear hwb
  go_upto_region 5 with fail
  go_region_held3 (fun w' => w'.cell? ⟨w.heap.size, 2, none⟩ = some (.string s)) (first | assumption | exact cell_on _ hk | exact cell_on _ c2 | exact c2)
    (first
      | (go_at_call 109
         with_reducible refine (CN.out wb.drew).mono ?_
         rintro e w2 ⟨v2, rfl, hO2, hB2⟩
         obtain ⟨g2, cap2, rfl, hc2, hg2, hby⟩ := hO2.shape (numB_ne _)
         obtain ⟨v3, w3, E3, hO3, hB3⟩ := app_b wb 2 hB2 _ g2 cap2 hby (own_lt hO2 g2 rfl) (by have := HN.out.2.2.2; omega)
         have hk := cell_keep hB2 c2
         have H3 := Lib.hid (And.intro hO3 hB3)
         clear hO3 hB3 hby hg2 hc2 hO2 hB2)
      | (go_at_call 109
         with_reducible refine (CN.out (World.drew (wb.alloc _))).mono ?_
         rintro e w2 ⟨v2, rfl, hO2, hB2⟩
         obtain ⟨g2, cap2, rfl, hc2, hg2, hby⟩ := hO2.shape (numB_ne _)
         obtain ⟨v3, w3, E3, hO3, hB3⟩ := app_a wb 2 hB2 _ g2 cap2 hby (by have := HN.out.2.2.2; omega)
         have hk := cell_keep hB2 (cell_on _ c2)
         have H3 := Lib.hid (And.intro hO3 hB3)
         clear hO3 hB3 hby hg2 hc2 hO2 hB2)
      | (refine step_append_run rfl _ _ _ _ (by rfl) _ _ (by rfl) (by rfl) v3 w3 E3 ?_
         have hk := cell_keep H3.out.2 c2
         clear E3)
      | (obtain ⟨v4, w4, E4, hO4, hG4⟩ := append_str H3.out.1 H3.out.2.size s (by have := HN.out.2.1; have := HN.out.2.2.1; have := HN.out.2.2.2; simp; omega)
         have hB4 := H3.out.2.trans (hG4.below H3.out.1 H3.out.2.size)
         have H4 := Lib.hid (And.intro hO4 hB4)
         have hk := cell_keep hB4 c2
         clear hO4 hB4 hG4
         refine step_append_run rfl _ _ _ _ (by rfl) _ _ (by rfl) (by rfl) v4 w4 E4 ?_))
  all_goals
    clear E4
    go_wp2_with fail
    go_ret
    refine ⟨_, rfl, ?_, HN.out.1.trans (H4.out.2.mono HN.out.1.size)⟩
    have := H4.out.1.mono HN.out.1.size
    rw [HN.out.2.1] at this
    simpa [It.enc] using this

theorem rencode_it (x : It) (hx : x.ok) (w : World) : Calls Tryz.prog 97 #[.agg x.cells.toArray] w (Made w.heap.size x.enc w) := by
  cases x with
  | text s => exact rencode_text s hx w
  | int n => exact rencode_int n hx.1 hx.2 w

theorem rowFour {w : World} {g n cap b : Nat} {t : TypeId} (h : RowIs w b t (listC g n cap)) : w.cell? ⟨b, 3, none⟩ = some (.slice (some ⟨g, 0, none⟩) n cap) := h.cell 3

set_option maxRecDepth 20000 in
set_option maxHeartbeats 2000000 in
theorem rencode_list (l : List It) (hok : ∀ x ∈ l, x.ok) (g cap : Nat) (hcap : l.length ≤ cap) (hmax : l.length < 1000000) (w : World) (hl : ItsAt w g l) (hg : g < w.heap.size) :
    Calls Tryz.prog 97 #[listV g l.length cap] w (Made w.heap.size (encL l) w) := by
  obtain ⟨n, hn⟩ : ∃ n, n = l.length := ⟨_, rfl⟩
  rw [← hn] at hcap hmax ⊢
  obtain ⟨wb, hwb⟩ : ∃ x, x = w.alloc (.cells (listC g n cap).toArray 59) := ⟨_, rfl⟩
  have hR : RowIs wb w.heap.size 59 (listC g n cap) := by rw [hwb]; exact RowIs.new w _ _
  have hB : Below w.heap.size w wb := by rw [hwb]; exact (Below.refl _ w).alloc (Nat.le_refl _) _
  have c0 : wb.cell? ⟨w.heap.size, 0, none⟩ = some (.int .i64 3) := hR.cell 0
  obtain ⟨w1, hw1⟩ : ∃ x, x = wb.alloc (.cells #[.int .u8 3] 5) := ⟨_, rfl⟩
  have hO1 : Own wb.heap.size w1 (.slice (some ⟨wb.heap.size, 0, none⟩) 1 1) [3] := by rw [hw1]; exact Own.one wb (Nat.le_refl _) 3
  have hB1 : Below wb.heap.size wb w1 := by rw [hw1]; exact (Below.refl _ wb).alloc (Nat.le_refl _) _
  have c3 : w1.cell? ⟨w.heap.size, 3, none⟩ = some (.slice (some ⟨g, 0, none⟩) n cap) := by
    rw [hw1]; exact (cell_alloc _ hR.lt).trans (hR.cell 3)
  have e1 : IntKind.u64.wrap (n : Int) = (n : Int) := by rw [IntKind.wrap_u64]; omega
  have CN := Lib.hid (rnumeral_any n (by omega) w1)
  have H := Lib.hid (And.intro hR (And.intro hB (And.intro hn (And.intro hl (And.intro hok (And.intro hO1 hB1))))))
  have Hlt := Lib.hid hR.lt
  clear hR hB hn hl hok hO1 hB1
  rw [hw1] at c3
  go_enter Tryz.func97, Tryz.ntmps97
  go_upto_region 1 with fail
  rw [← hwb]
  clear hwb
  go_wp2_with fail
  rw [← hw1]
  clear hw1
  refine CN.out.mono ?_
  rintro e w2 ⟨v2, rfl, hO2, hB2⟩
  obtain ⟨g2, cap2, rfl, hc2, hg2, hby⟩ := hO2.shape (numB_ne _)
  have hO1 := H.out.2.2.2.2.2.1.below hB2 (Nat.le_refl _)
  have hBw := H.out.2.2.2.2.2.2.trans (hB2.mono H.out.2.2.2.2.2.2.size)
  have hnl := numB_length 10 n (by omega)
  obtain ⟨v3, w3, E3, hO3, hG3⟩ := append_own (m := numB n) hO1 hBw.size g2 0 cap2 hby (by simp; omega)
  have hB3 := hBw.trans (hG3.below hO1 hBw.size)
  have H3 := Lib.hid (And.intro hO3 (And.intro hB3 hnl))
  clear hO3 hB3 hG3 hO1 hBw hby hg2 hc2 hO2 hB2 CN hnl
  go_upto_block 1 with fail
  clear E3 c0 c3 e1
  go_wp2_with fail
  go_loopw [3, 4] (fun v i wr => ∃ t : Nat, t ≤ n ∧ i = .int .i64 t ∧ Hid (Own wb.heap.size wr v ([3] ++ numB n ++ (l.take t).flatMap It.enc) ∧ Below wb.heap.size wb wr ∧ ([3] ++ numB n ++ (l.take t).flatMap It.enc).length ≤ 20 + t * 1000012)) (fun _ i _ => n - (intOf i).toNat)
  case atStart =>
    refine ⟨0, by omega, rfl, Lib.hid ⟨by simpa using H3.out.1, H3.out.2.1, ?_⟩⟩
    have := H3.out.2.2
    simp
    omega
  case round =>
    obtain ⟨t, ht, rfl, HR⟩ := hrel
    have hR := H.out.1.below HR.out.2.1 Hlt.out
    have d3 := rowFour hR
    have hBw := H.out.2.1.trans (HR.out.2.1.mono H.out.2.1.size)
    by_cases hlt : t < n
    · have htl : t < l.length := by rw [← H.out.2.2.1]; exact hlt
      obtain ⟨x, hx⟩ : ∃ x, x = l[t]'htl := ⟨_, rfl⟩
      have hxok : x.ok := H.out.2.2.2.2.1 x (by rw [hx]; exact List.getElem_mem _)
      have hnext : (l.take (t + 1)).flatMap It.enc = (l.take t).flatMap It.enc ++ x.enc := by
        rw [List.take_add_one, List.getElem?_eq_getElem htl, ← hx]; simp
      have hxl := x.enc_len hxok
      have hxl2 : x.len ≤ 1000012 := by
        cases x with
        | text s => simp only [It.len]; simp only [It.ok] at hxok; omega
        | int n => simp only [It.len]; omega
      obtain ⟨a, b, c, hx4⟩ := x.four
      have hcs := fun j v => (H.out.2.2.2.1.below hBw hg) t htl j v
      rw [← hx, hx4] at hcs
      have k0 := hcs 0 _ rfl
      have k1 := hcs 1 _ rfl
      have k2 := hcs 2 _ rfl
      have k3 := hcs 3 _ rfl
      rw [show 4 * t + 0 = t * 4 by omega] at k0
      rw [show 4 * t + 1 = t * 4 + 1 by omega] at k1
      rw [show 4 * t + 2 = t * 4 + 2 by omega] at k2
      rw [show 4 * t + 3 = t * 4 + 3 by omega] at k3
      have C := rencode_it x hxok wr
      rw [hx4] at C
      replace C := Lib.hid C
      have Hx := Lib.hid (And.intro hnext (And.intro hxl hxl2))
      clear hcs hx hR hBw hnext hxl hxl2 hxok hx4
      go_wp2_with fail
      refine C.out.mono ?_
      rintro e w4 ⟨v4, rfl, hO4, hB4⟩
      obtain ⟨g4, cap4, rfl, hc4, hg4, hby⟩ := hO4.shape (It.enc_ne _)
      have hO5 := HR.out.1.below hB4 (Nat.le_refl _)
      have hB5 := HR.out.2.1.trans (hB4.mono HR.out.2.1.size)
      obtain ⟨v6, w6, E6, hO6, hG6⟩ := append_own (m := x.enc) hO5 hB5.size g4 0 cap4 hby (by have := HR.out.2.2; have := Hx.out.2.1; have := Hx.out.2.2; omega)
      have HF : Hid (Own wb.heap.size w6 v6 ([3] ++ numB n ++ (l.take (t + 1)).flatMap It.enc) ∧ Below wb.heap.size wb w6 ∧ ([3] ++ numB n ++ (l.take (t + 1)).flatMap It.enc).length ≤ 20 + (t + 1) * 1000012) := by
        rw [Hx.out.1, ← List.append_assoc]
        refine Lib.hid ⟨hO6, hB5.trans (hG6.below hO5 hB5.size), ?_⟩
        rw [List.length_append]
        have := HR.out.2.2
        have := Hx.out.2.1
        have := Hx.out.2.2
        omega
      clear hO6 hG6 hB5 hO5 hby hg4 hc4 hO4 hB4 C k0 k1 k2 k3 d3
      go_wp2_with fail
      exact ⟨⟨t + 1, by omega, by go_num, HF⟩, by simp [intOf]; omega⟩
    · obtain rfl : t = n := by omega
      have HB := Lib.hid hBw
      clear hR hBw
      go_wp2_with fail
      go_ret
      refine ⟨_, rfl, ?_, HB.out⟩
      have := HR.out.1.mono H.out.2.1.size
      have hnl : t = l.length := H.out.2.2.1
      rw [List.take_of_length_le (by omega)] at this
      unfold encL
      rw [← hnl]
      simpa using this

set_option maxRecDepth 20000 in
theorem rEncode_list (l : List It) (hok : ∀ x ∈ l, x.ok) (g cap : Nat) (hcap : l.length ≤ cap) (hmax : l.length < 1000000) (w : World) (hl : ItsAt w g l) (hg : g < w.heap.size) :
    Calls Tryz.prog 86 #[listV g l.length cap] w fun e w' => ∃ v, e = .returned (.tuple #[v, .int .i64 0]) ∧ Own w.heap.size w' v (encL l) ∧ Below w.heap.size w w' := by
  have CF := fun w hl hg => rcheck_list l g cap hcap hmax w hl hg
  have CD := fun w hl hg => rencode_list l hok g cap hcap hmax w hl hg
  obtain ⟨n, hn⟩ : ∃ n, n = l.length := ⟨_, rfl⟩
  rw [← hn] at CF CD ⊢
  obtain ⟨wb, hwb⟩ : ∃ x, x = w.alloc (.cells (listC g n cap).toArray 59) := ⟨_, rfl⟩
  have hR : RowIs wb w.heap.size 59 (listC g n cap) := by rw [hwb]; exact RowIs.new w _ _
  have hB : Below w.heap.size w wb := by rw [hwb]; exact (Below.refl _ w).alloc (Nat.le_refl _) _
  have c0 : wb.cell? ⟨w.heap.size, 0, none⟩ = some (.int .i64 3) := hR.cell 0
  have c1 : wb.cell? ⟨w.heap.size, 1, none⟩ = some (.int .i64 0) := hR.cell 1
  have c2 : wb.cell? ⟨w.heap.size, 2, none⟩ = some (.string ⟨#[]⟩) := hR.cell 2
  have c3 : wb.cell? ⟨w.heap.size, 3, none⟩ = some (.slice (some ⟨g, 0, none⟩) n cap) := hR.cell 3
  have C1 := Lib.hid (CF wb (hl.below hB hg) (Nat.lt_of_lt_of_le hg hB.size))
  have H := Lib.hid (And.intro hR (And.intro hB hl))
  have HD := Lib.hid CD
  clear hR hB hn hl CF CD hok
  go_enter Tryz.func86, Tryz.ntmps86
  go_upto_region 1 with fail
  rw [← hwb]
  clear hwb
  go_wp2_with fail
  refine C1.out.mono ?_
  rintro e w2 ⟨rfl, hB2⟩
  have hR2 := H.out.1.below hB2 H.out.1.lt
  have hBw := H.out.2.1.trans (hB2.mono H.out.2.1.size)
  have d0 : w2.cell? ⟨w.heap.size, 0, none⟩ = some (.int .i64 3) := hR2.cell 0
  have d1 : w2.cell? ⟨w.heap.size, 1, none⟩ = some (.int .i64 0) := hR2.cell 1
  have d2 : w2.cell? ⟨w.heap.size, 2, none⟩ = some (.string ⟨#[]⟩) := hR2.cell 2
  have d3 : w2.cell? ⟨w.heap.size, 3, none⟩ = some (.slice (some ⟨g, 0, none⟩) n cap) := hR2.cell 3
  have C2 := Lib.hid (HD.out w2 (H.out.2.2.below hBw hg) (Nat.lt_of_lt_of_le hg hBw.size))
  have H2 := Lib.hid hBw
  clear c0 c1 c2 c3 hB2 hR2 hBw C1
  go_wp2_with fail
  refine C2.out.mono ?_
  rintro e w3 ⟨v3, rfl, hO3, hB3⟩
  have H3 := Lib.hid (And.intro (hO3.mono H2.out.size) (H2.out.trans (hB3.mono H2.out.size)))
  clear hB3 hO3 d0 d1 d2 d3
  go_wp2_with fail
  go_ret2
  exact ⟨_, rfl, H3.out.1, H3.out.2⟩
end Go.Proofs.YtgklcfipgdbbgaaGreatDoor
