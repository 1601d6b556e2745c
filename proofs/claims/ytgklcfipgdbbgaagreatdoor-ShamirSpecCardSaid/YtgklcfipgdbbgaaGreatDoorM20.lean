/- codec.Check and codec.Encode at flat lists. -/
import Derived.Test.YtgklcfipgdbbgaaGreatDoorM19
namespace Go.Proofs.YtgklcfipgdbbgaaGreatDoor
open Go.RowKit

abbrev listV (g n cap : Nat) : Value := .agg #[.int .i64 3, .int .i64 0, .string ⟨#[]⟩, .slice (some ⟨g, 0, none⟩) n cap]

set_option maxRecDepth 20000 in
theorem ccheck_list (l : List It) (g cap : Nat) (hcap : l.length ≤ cap) (hmax : l.length < 1000000) (w : World) (hl : ItsAt w g l) (hg : g < w.heap.size) :
    Calls Tryz.prog 53 #[listV g l.length cap] w fun e w' => e = .returned (.int .i64 0) ∧ Below w.heap.size w w' := by
  obtain ⟨n, hn⟩ : ∃ n, n = l.length := ⟨_, rfl⟩
  obtain ⟨wb, hwb⟩ : ∃ x, x = w.alloc (.cells #[.int .i64 3, .int .i64 0, .string ⟨#[]⟩, .slice (some ⟨g, 0, none⟩) n cap] 59) := ⟨_, rfl⟩
  have hBb : Below w.heap.size w wb := by rw [hwb]; exact (Below.refl _ w).alloc (Nat.le_refl _) _
  have C := Lib.hid (formed_list l g cap hcap hmax wb (hl.below hBb hg) (Nat.lt_of_lt_of_le hg hBb.size))
  rw [← hn] at C ⊢
  rw [hwb] at C
  have HB := Lib.hid hBb
  have Hwb := Lib.hid hwb
  clear hn hBb hwb hcap hmax hl
  go_enter Tryz.func53, Tryz.ntmps53
  go_wp2_with fail
  refine C.out.mono ?_
  rintro e w1 ⟨rfl, hB1⟩
  rw [← Hwb.out] at hB1
  have HB1 := Lib.hid (HB.out.trans (hB1.mono HB.out.size))
  clear hB1
  go_wp2_with fail
  go_ret
  exact ⟨rfl, HB1.out⟩

theorem encode_tail (l : List It) (hok : ∀ x ∈ l, x.ok) (g cap b c : Nat) (hcap : l.length ≤ cap) (hmax : l.length < 1000000) (w : World) (hl : ItsAt w g l) (hg : g < w.heap.size) (hW : Writer w b c) :
    Calls Tryz.prog 78 #[.slice none 0 0, listV g l.length cap, .pointer (some ⟨c, 0, none⟩)] w fun e w' => ∃ v, e = .returned v ∧ Bs w'.heap.size w' v (encL l) ∧ Below w.heap.size w w' := by
  refine (write_list (B := w.heap.size) (w := w) (v := .slice none 0 0) (l0 := []) (Own.nil _ _) (Nat.le_refl _) l hok g cap b c hcap hmax (by simp) hl hg hW hW.row.lt hW.self.lt).mono ?_
  rintro e w3 ⟨v3, rfl, hO3, hG3⟩
  exact ⟨v3, rfl, hO3.bs, hG3.below (Own.nil w.heap.size w) (Nat.le_refl _)⟩

set_option maxRecDepth 20000 in
set_option maxHeartbeats 4000000 in
theorem encode_list (l : List It) (hok : ∀ x ∈ l, x.ok) (g cap : Nat) (hcap : l.length ≤ cap) (hmax : l.length < 1000000) (w : World) (hl : ItsAt w g l) (hg : g < w.heap.size) :
    Calls Tryz.prog 32 #[listV g l.length cap] w fun e w' => ∃ v, e = .returned (.tuple #[v, .int .i64 0]) ∧ Bs w'.heap.size w' v (encL l) ∧ Below w.heap.size w w' := by
  obtain ⟨n, hn⟩ : ∃ n, n = l.length := ⟨_, rfl⟩
  obtain ⟨wb, hwb⟩ : ∃ x, x = w.alloc (.cells #[.int .i64 3, .int .i64 0, .string ⟨#[]⟩, .slice (some ⟨g, 0, none⟩) n cap] 59) := ⟨_, rfl⟩
  have hRb : RowIs wb w.heap.size 59 [.int .i64 3, .int .i64 0, .string ⟨#[]⟩, .slice (some ⟨g, 0, none⟩) n cap] := by rw [hwb]; exact RowIs.new w _ _
  have hBb : Below w.heap.size w wb := by rw [hwb]; exact (Below.refl _ w).alloc (Nat.le_refl _) _
  have C := Lib.hid (ccheck_list l g cap hcap hmax wb (hl.below hBb hg) (Nat.lt_of_lt_of_le hg hBb.size))
  rw [← hn] at C hcap hmax ⊢
  rw [hwb] at C
  have HH := Lib.hid (And.intro hBb (And.intro hRb (And.intro hn (And.intro hl hok))))
  have Hwb := Lib.hid hwb
  clear hn hBb hRb hl hok hwb
  go_enter Tryz.func32, Tryz.ntmps32
  go_wp2_with fail
  refine C.out.mono ?_
  rintro e w1 ⟨rfl, hB1⟩
  rw [← Hwb.out] at hB1
  have hR1 := HH.out.2.1.below hB1 HH.out.2.1.lt
  have d0 := hR1.cell 0
  have d1 := hR1.cell 1
  have d2 := hR1.cell 2
  have d3 := hR1.cell 3
  simp only [List.getElem?_cons_zero, List.getElem?_cons_succ] at d0 d1 d2 d3
  have hs1 := HH.out.2.1.lt
  have hs2 := hB1.size
  have Hw1 := Lib.hid (And.intro (HH.out.1.trans (hB1.mono HH.out.1.size)) (And.intro hR1 (And.intro hs1 hs2)))
  clear hB1 hR1 hs1 hs2 C
  go_upto_region 4 with fail
  have hn4 : ∀ {w2 : World}, Below w1.heap.size w1 w2 → w2.cell? ⟨w.heap.size, 0, none⟩ = some (.int .i64 3) ∧ w2.cell? ⟨w.heap.size, 1, none⟩ = some (.int .i64 0) ∧ w2.cell? ⟨w.heap.size, 2, none⟩ = some (.string ⟨#[]⟩) ∧ w2.cell? ⟨w.heap.size, 3, none⟩ = some (.slice (some ⟨g, 0, none⟩) n cap) := by
    intro w2 hb
    have hR2 := Hw1.out.2.1.below hb Hw1.out.2.1.lt
    exact ⟨hR2.cell 0, hR2.cell 1, hR2.cell 2, hR2.cell 3⟩
  have Hn4 := Lib.hid (fun w2 => @hn4 w2)
  have CW : Hid (∀ w2, Below w1.heap.size w1 w2 → Writer w2 w1.heap.size (w1.heap.size + 1) → Calls Tryz.prog 78 #[.slice none 0 0, listV g n cap, .pointer (some ⟨w1.heap.size + 1, 0, none⟩)] w2 fun e w' => ∃ v, e = .returned v ∧ Bs w'.heap.size w' v (encL l) ∧ (Below w1.heap.size w1 w2 → Below w1.heap.size w1 w')) := by
    refine Lib.hid (fun w2 hb hW => ?_)
    have h1 := Hw1.out.1.trans (hb.mono (Nat.le_of_lt (Nat.lt_of_lt_of_le Hw1.out.2.2.1 Hw1.out.2.2.2)))
    have hn := HH.out.2.2.1
    rw [hn] at hcap hmax ⊢
    refine (encode_tail l HH.out.2.2.2.2 g cap _ _ hcap hmax w2 (HH.out.2.2.2.1.below h1 hg) (Nat.lt_of_lt_of_le hg h1.size) hW).mono ?_
    rintro e w3 ⟨v3, rfl, h2, h3⟩
    exact ⟨v3, rfl, h2, fun h => h.trans (h3.mono h.size)⟩
  clear hn4
  go_region_with
    (first
      | (go_at_call 54
         refine (newWriter_any w1.drew).mono ?_
         rintro e w2 ⟨rfl, hW2, hB2⟩
         have hB2 : Below w1.heap.size w1 w2 := (drew_below w1).trans hB2
         obtain ⟨h40, h41, h42, h43⟩ := Hn4.out w2 hB2
         have hf : w2.cell? ⟨w1.heap.size, 3, none⟩ = some (.func (.func 78) #[] #[.pointer (some ⟨w1.heap.size + 1, 0, none⟩)]) := hW2.row.cell 3
         have HW := Lib.hid (And.intro hW2 hB2)
         clear hW2 hB2)
      | (go_at_call 78
         refine (CW.out w2 HW.out.2 HW.out.1).mono ?_
         rintro e w3 ⟨v3, rfl, hb3, hB3⟩
         have HF := Lib.hid (And.intro hb3 hB3)
         clear hb3 hB3))
  all_goals
    go_wp2_with fail
    go_ret2
    exact ⟨_, rfl, HF.out.1, Hw1.out.1.trans ((HF.out.2 HW.out.2).mono (Nat.le_of_lt (Nat.lt_of_lt_of_le Hw1.out.2.2.1 Hw1.out.2.2.2)))⟩
end Go.Proofs.YtgklcfipgdbbgaaGreatDoor

/- The reference's codec at flat lists: Formed, Depth, Check. -/
namespace Go.Proofs.YtgklcfipgdbbgaaGreatDoor
open Go.RowKit

set_option maxRecDepth 20000 in
theorem rformed_it (x : It) (w : World) : Calls Tryz.prog 107 #[.agg x.cells.toArray] w fun e w' => e = .returned (.bool true) ∧ Below w.heap.size w w' := by
  cases x with
  | text s =>
    show Calls _ _ #[.agg #[.int .i64 2, .int .i64 0, .string s, .slice none 0 0]] _ _
    go_enter Tryz.func107, Tryz.ntmps107
    go_wp2_with fail
    all_goals
      go_ret
      exact ⟨rfl, (Below.refl _ w).alloc (Nat.le_refl _) _⟩
  | int n =>
    show Calls _ _ #[.agg #[.int .i64 1, .int .i64 n, .string ⟨#[]⟩, .slice none 0 0]] _ _
    go_enter Tryz.func107, Tryz.ntmps107
    go_wp2_with fail
    all_goals
      go_ret
      exact ⟨rfl, (Below.refl _ w).alloc (Nat.le_refl _) _⟩

set_option maxRecDepth 20000 in
theorem rdepth_it (x : It) (w : World) : Calls Tryz.prog 108 #[.agg x.cells.toArray] w fun e w' => e = .returned (.int .i64 0) ∧ Below w.heap.size w w' := by
  cases x with
  | text s =>
    show Calls _ _ #[.agg #[.int .i64 2, .int .i64 0, .string s, .slice none 0 0]] _ _
    go_enter Tryz.func108, Tryz.ntmps108
    go_wp2_with fail
    all_goals
      go_ret
      exact ⟨rfl, (Below.refl _ w).alloc (Nat.le_refl _) _⟩
  | int n =>
    show Calls _ _ #[.agg #[.int .i64 1, .int .i64 n, .string ⟨#[]⟩, .slice none 0 0]] _ _
    go_enter Tryz.func108, Tryz.ntmps108
    go_wp2_with fail
    all_goals
      go_ret
      exact ⟨rfl, (Below.refl _ w).alloc (Nat.le_refl _) _⟩

abbrev listC (g n cap : Nat) : List Value := [.int .i64 3, .int .i64 0, .string ⟨#[]⟩, .slice (some ⟨g, 0, none⟩) n cap]

set_option maxRecDepth 20000 in
set_option maxHeartbeats 2000000 in
theorem rformed_list (l : List It) (g cap : Nat) (hcap : l.length ≤ cap) (hmax : l.length < 1000000) (w : World) (hl : ItsAt w g l) (hg : g < w.heap.size) :
    Calls Tryz.prog 107 #[listV g l.length cap] w fun e w' => e = .returned (.bool true) ∧ Below w.heap.size w w' := by
  obtain ⟨n, hn⟩ : ∃ n, n = l.length := ⟨_, rfl⟩
  rw [← hn] at hcap hmax ⊢
  obtain ⟨wb, hwb⟩ : ∃ x, x = w.alloc (.cells (listC g n cap).toArray 59) := ⟨_, rfl⟩
  have hR : RowIs wb w.heap.size 59 (listC g n cap) := by rw [hwb]; exact RowIs.new w _ _
  have hB : Below w.heap.size w wb := by rw [hwb]; exact (Below.refl _ w).alloc (Nat.le_refl _) _
  have c0 : wb.cell? ⟨w.heap.size, 0, none⟩ = some (.int .i64 3) := hR.cell 0
  have H := Lib.hid (And.intro hR (And.intro hB (And.intro hn hl)))
  clear hR hB hn hl
  go_enter Tryz.func107, Tryz.ntmps107
  go_upto_region 1 with fail
  rw [← hwb]
  clear hwb
  go_wp2_with fail
  clear c0
  go_loopw [3] (fun i wr => ∃ t : Nat, t ≤ n ∧ i = .int .i64 t ∧ Hid (Below wb.heap.size wb wr)) (fun i _ => n - (intOf i).toNat)
  case atStart => exact ⟨0, by omega, rfl, Lib.hid (Below.refl _ _)⟩
  case round =>
    obtain ⟨t, ht, rfl, hB⟩ := hrel
    have hR := H.out.1.below hB.out H.out.1.lt
    have d1 : wr.cell? ⟨w.heap.size, 1, none⟩ = some (.int .i64 0) := hR.cell 1
    have d2 : wr.cell? ⟨w.heap.size, 2, none⟩ = some (.string ⟨#[]⟩) := hR.cell 2
    have d3 : wr.cell? ⟨w.heap.size, 3, none⟩ = some (.slice (some ⟨g, 0, none⟩) n cap) := hR.cell 3
    have hBw := H.out.2.1.trans (hB.out.mono H.out.2.1.size)
    by_cases hlt : t < n
    · obtain ⟨x, hx⟩ : ∃ x, x = l[t]'(by have := H.out.2.2.1; omega) := ⟨_, rfl⟩
      obtain ⟨a, b, c, hx4⟩ := x.four
      have hcs := fun j v => (H.out.2.2.2.below hBw hg) t (by have := H.out.2.2.1; omega) j v
      rw [← hx, hx4] at hcs
      have k0 := hcs 0 _ rfl
      have k1 := hcs 1 _ rfl
      have k2 := hcs 2 _ rfl
      have k3 := hcs 3 _ rfl
      rw [show 4 * t + 0 = t * 4 by omega] at k0
      rw [show 4 * t + 1 = t * 4 + 1 by omega] at k1
      rw [show 4 * t + 2 = t * 4 + 2 by omega] at k2
      rw [show 4 * t + 3 = t * 4 + 3 by omega] at k3
      have C := Lib.hid (rformed_it x wr)
      rw [hx4] at C
      clear hcs hx hR hBw
      go_wp2_with fail
      refine C.out.mono ?_
      rintro e w2 ⟨rfl, hB2⟩
      have HH := Lib.hid (hB.out.trans (hB2.mono hB.out.size))
      clear hB2
      go_wp2_with fail
      exact ⟨⟨t + 1, by omega, by go_num, HH⟩, by simp [intOf]; omega⟩
    · obtain rfl : t = n := by omega
      have hBw := Lib.hid hBw
      clear hR
      go_wp2_with fail
      go_ret
      exact ⟨rfl, hBw.out⟩

set_option maxRecDepth 20000 in
set_option maxHeartbeats 2000000 in
theorem rdepth_list (l : List It) (g cap : Nat) (hcap : l.length ≤ cap) (hmax : l.length < 1000000) (w : World) (hl : ItsAt w g l) (hg : g < w.heap.size) :
    Calls Tryz.prog 108 #[listV g l.length cap] w fun e w' => e = .returned (.int .i64 1) ∧ Below w.heap.size w w' := by
  obtain ⟨n, hn⟩ : ∃ n, n = l.length := ⟨_, rfl⟩
  rw [← hn] at hcap hmax ⊢
  obtain ⟨wb, hwb⟩ : ∃ x, x = w.alloc (.cells (listC g n cap).toArray 59) := ⟨_, rfl⟩
  have hR : RowIs wb w.heap.size 59 (listC g n cap) := by rw [hwb]; exact RowIs.new w _ _
  have hB : Below w.heap.size w wb := by rw [hwb]; exact (Below.refl _ w).alloc (Nat.le_refl _) _
  have c0 : wb.cell? ⟨w.heap.size, 0, none⟩ = some (.int .i64 3) := hR.cell 0
  have H := Lib.hid (And.intro hR (And.intro hB (And.intro hn hl)))
  clear hR hB hn hl
  go_enter Tryz.func108, Tryz.ntmps108
  go_upto_region 1 with fail
  rw [← hwb]
  clear hwb
  go_wp2_with fail
  clear c0
  go_loopw [3, 4] (fun d i wr => ∃ t : Nat, t ≤ n ∧ i = .int .i64 t ∧ d = .int .i64 0 ∧ Hid (Below wb.heap.size wb wr)) (fun _ i _ => n - (intOf i).toNat)
  case atStart => exact ⟨0, by omega, rfl, rfl, Lib.hid (Below.refl _ _)⟩
  case round =>
    obtain ⟨t, ht, rfl, rfl, hB⟩ := hrel
    have hR := H.out.1.below hB.out H.out.1.lt
    have d3 : wr.cell? ⟨w.heap.size, 3, none⟩ = some (.slice (some ⟨g, 0, none⟩) n cap) := hR.cell 3
    have hBw := H.out.2.1.trans (hB.out.mono H.out.2.1.size)
    by_cases hlt : t < n
    · obtain ⟨x, hx⟩ : ∃ x, x = l[t]'(by have := H.out.2.2.1; omega) := ⟨_, rfl⟩
      obtain ⟨a, b, c, hx4⟩ := x.four
      have hcs := fun j v => (H.out.2.2.2.below hBw hg) t (by have := H.out.2.2.1; omega) j v
      rw [← hx, hx4] at hcs
      have k0 := hcs 0 _ rfl
      have k1 := hcs 1 _ rfl
      have k2 := hcs 2 _ rfl
      have k3 := hcs 3 _ rfl
      rw [show 4 * t + 0 = t * 4 by omega] at k0
      rw [show 4 * t + 1 = t * 4 + 1 by omega] at k1
      rw [show 4 * t + 2 = t * 4 + 2 by omega] at k2
      rw [show 4 * t + 3 = t * 4 + 3 by omega] at k3
      have C := Lib.hid (rdepth_it x wr)
      rw [hx4] at C
      clear hcs hx hR hBw
      go_wp2_with fail
      refine C.out.mono ?_
      rintro e w2 ⟨rfl, hB2⟩
      have HH := Lib.hid (hB.out.trans (hB2.mono hB.out.size))
      clear hB2
      go_wp2_with fail
      exact ⟨⟨t + 1, by omega, by go_num, rfl, HH⟩, by simp [intOf]; omega⟩
    · obtain rfl : t = n := by omega
      have hBw := Lib.hid hBw
      clear hR
      go_wp2_with fail
      go_ret
      exact ⟨rfl, hBw.out⟩

set_option maxRecDepth 20000 in
theorem rcheck_list (l : List It) (g cap : Nat) (hcap : l.length ≤ cap) (hmax : l.length < 1000000) (w : World) (hl : ItsAt w g l) (hg : g < w.heap.size) :
    Calls Tryz.prog 96 #[listV g l.length cap] w fun e w' => e = .returned (.int .i64 0) ∧ Below w.heap.size w w' := by
  have CF := fun w hl hg => rformed_list l g cap hcap hmax w hl hg
  have CD := fun w hl hg => rdepth_list l g cap hcap hmax w hl hg
  obtain ⟨n, hn⟩ : ∃ n, n = l.length := ⟨_, rfl⟩
  rw [← hn] at CF CD ⊢
  obtain ⟨wb, hwb⟩ : ∃ x, x = w.alloc (.cells (listC g n cap).toArray 59) := ⟨_, rfl⟩
  have hR : RowIs wb w.heap.size 59 (listC g n cap) := by rw [hwb]; exact RowIs.new w _ _
  have hB : Below w.heap.size w wb := by rw [hwb]; exact (Below.refl _ w).alloc (Nat.le_refl _) _
  have c0 : wb.cell? ⟨w.heap.size, 0, none⟩ = some (.int .i64 3) := hR.cell 0
  have c1 : wb.cell? ⟨w.heap.size, 1, none⟩ = some (.int .i64 0) := hR.cell 1
  have c2 : wb.cell? ⟨w.heap.size, 2, none⟩ = some (.string ⟨#[]⟩) := hR.cell 2
  have c3 : wb.cell? ⟨w.heap.size, 3, none⟩ = some (.slice (some ⟨g, 0, none⟩) n cap) := hR.cell 3
  have C1 := Lib.hid (CF wb (hl.below hB hg) (Nat.lt_of_lt_of_le hg hB.size))
  have H := Lib.hid (And.intro hR (And.intro hB hl))
  have HD := Lib.hid CD
  clear hR hB hn hl CF CD
  go_enter Tryz.func96, Tryz.ntmps96
  go_upto_region 1 with fail
  rw [← hwb]
  clear hwb
  go_wp2_with fail
  refine C1.out.mono ?_
  rintro e w2 ⟨rfl, hB2⟩
  have hR2 := H.out.1.below hB2 H.out.1.lt
  have hBw := H.out.2.1.trans (hB2.mono H.out.2.1.size)
  have d0 : w2.cell? ⟨w.heap.size, 0, none⟩ = some (.int .i64 3) := hR2.cell 0
  have d1 : w2.cell? ⟨w.heap.size, 1, none⟩ = some (.int .i64 0) := hR2.cell 1
  have d2 : w2.cell? ⟨w.heap.size, 2, none⟩ = some (.string ⟨#[]⟩) := hR2.cell 2
  have d3 : w2.cell? ⟨w.heap.size, 3, none⟩ = some (.slice (some ⟨g, 0, none⟩) n cap) := hR2.cell 3
  have C2 := Lib.hid (HD.out w2 (H.out.2.2.below hBw hg) (Nat.lt_of_lt_of_le hg hBw.size))
  have H2 := Lib.hid hBw
  clear c0 c1 c2 c3 hB2 hR2 hBw C1
  go_wp2_with fail
  refine C2.out.mono ?_
  rintro e w3 ⟨rfl, hB3⟩
  have H3 := Lib.hid (H2.out.trans (hB3.mono H2.out.size))
  clear hB3 d0 d1 d2 d3
  go_wp2_with fail
  go_ret
  exact ⟨rfl, H3.out⟩
end Go.Proofs.YtgklcfipgdbbgaaGreatDoor
