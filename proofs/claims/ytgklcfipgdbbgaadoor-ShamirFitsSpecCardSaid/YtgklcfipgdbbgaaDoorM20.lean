/- codec.Check and codec.Encode at flat lists. -/
import Derived.Test.YtgklcfipgdbbgaaDoorM19
namespace Go.Proofs.YtgklcfipgdbbgaaDoor
open Go.RowKit

abbrev listV (g n cap : Nat) : Value := .agg #[.int .i64 3, .int .i64 0, .string ⟨#[]⟩, .slice (some ⟨g, 0, none⟩) n cap]

set_option maxRecDepth 20000 in
theorem ccheck_list (l : List It) (g cap : Nat) (hcap : l.length ≤ cap) (hmax : l.length < 1000000) (w : World) (hl : ItsAt w g l) (hg : g < w.heap.size) :
    Calls Tryd.prog 64 #[listV g l.length cap] w fun e w' => e = .returned (.int .i64 0) ∧ Below w.heap.size w w' := by
  obtain ⟨n, hn⟩ : ∃ n, n = l.length := ⟨_, rfl⟩
  obtain ⟨wb, hwb⟩ : ∃ x, x = w.alloc (.cells #[.int .i64 3, .int .i64 0, .string ⟨#[]⟩, .slice (some ⟨g, 0, none⟩) n cap] 68) := ⟨_, rfl⟩
  have hBb : Below w.heap.size w wb := by rw [hwb]; exact (Below.refl _ w).alloc (Nat.le_refl _) _
  have C := Lib.hid (formed_list l g cap hcap hmax wb (hl.below hBb hg) (Nat.lt_of_lt_of_le hg hBb.size))
  rw [← hn] at C ⊢
  rw [hwb] at C
  have HB := Lib.hid hBb
  have Hwb := Lib.hid hwb
  clear hn hBb hwb hcap hmax hl
  go_enter Tryd.func64, Tryd.ntmps64
  go_wp2_with fail
  refine C.out.mono ?_
  rintro e w1 ⟨rfl, hB1⟩
  rw [← Hwb.out] at hB1
  have HB1 := Lib.hid (HB.out.trans (hB1.mono HB.out.size))
  clear hB1
  go_wp2_with fail
  go_ret
  exact ⟨rfl, HB1.out⟩

theorem encode_tail (l : List It) (hok : ∀ x ∈ l, x.ok) (g cap b c : Nat) (hcap : l.length ≤ cap) (hmax : l.length < 1000000) (w : World) (hl : ItsAt w g l) (hg : g < w.heap.size) (hW : Writer w b c) :
    Calls Tryd.prog 85 #[.slice none 0 0, listV g l.length cap, .pointer (some ⟨c, 0, none⟩)] w fun e w' => ∃ v, e = .returned v ∧ Bs w'.heap.size w' v (encL l) ∧ Below w.heap.size w w' := by
  refine (write_list (B := w.heap.size) (w := w) (v := .slice none 0 0) (l0 := []) (Own.nil _ _) (Nat.le_refl _) l hok g cap b c hcap hmax (by simp) hl hg hW hW.row.lt hW.self.lt).mono ?_
  rintro e w3 ⟨v3, rfl, hO3, hG3⟩
  exact ⟨v3, rfl, hO3.bs, hG3.below (Own.nil w.heap.size w) (Nat.le_refl _)⟩

set_option maxRecDepth 20000 in
set_option maxHeartbeats 4000000 in
theorem encode_list (l : List It) (hok : ∀ x ∈ l, x.ok) (g cap : Nat) (hcap : l.length ≤ cap) (hmax : l.length < 1000000) (w : World) (hl : ItsAt w g l) (hg : g < w.heap.size) :
    Calls Tryd.prog 43 #[listV g l.length cap] w fun e w' => ∃ v, e = .returned (.tuple #[v, .int .i64 0]) ∧ Bs w'.heap.size w' v (encL l) ∧ Below w.heap.size w w' := by
  obtain ⟨n, hn⟩ : ∃ n, n = l.length := ⟨_, rfl⟩
  obtain ⟨wb, hwb⟩ : ∃ x, x = w.alloc (.cells #[.int .i64 3, .int .i64 0, .string ⟨#[]⟩, .slice (some ⟨g, 0, none⟩) n cap] 68) := ⟨_, rfl⟩
  have hRb : RowIs wb w.heap.size 68 [.int .i64 3, .int .i64 0, .string ⟨#[]⟩, .slice (some ⟨g, 0, none⟩) n cap] := by rw [hwb]; exact RowIs.new w _ _
  have hBb : Below w.heap.size w wb := by rw [hwb]; exact (Below.refl _ w).alloc (Nat.le_refl _) _
  have C := Lib.hid (ccheck_list l g cap hcap hmax wb (hl.below hBb hg) (Nat.lt_of_lt_of_le hg hBb.size))
  rw [← hn] at C hcap hmax ⊢
  rw [hwb] at C
  have HH := Lib.hid (And.intro hBb (And.intro hRb (And.intro hn (And.intro hl hok))))
  have Hwb := Lib.hid hwb
  clear hn hBb hRb hl hok hwb
  go_enter Tryd.func43, Tryd.ntmps43
  go_wp2_with fail
  refine C.out.mono ?_
  rintro e w1 ⟨rfl, hB1⟩
  rw [← Hwb.out] at hB1
  have hR1 := HH.out.2.1.below hB1 HH.out.2.1.lt
  have d0 := hR1.cell 0
  have d1 := hR1.cell 1
  have d2 := hR1.cell 2
  have d3 := hR1.cell 3
  simp only [List.getElem?_cons_zero, List.getElem?_cons_succ] at d0 d1 d2 d3
  have hs1 := HH.out.2.1.lt
  have hs2 := hB1.size
  have Hw1 := Lib.hid (And.intro (HH.out.1.trans (hB1.mono HH.out.1.size)) (And.intro hR1 (And.intro hs1 hs2)))
  clear hB1 hR1 hs1 hs2 C
  go_upto_region 4 with fail
  have hn4 : ∀ {w2 : World}, Below w1.heap.size w1 w2 → w2.cell? ⟨w.heap.size, 0, none⟩ = some (.int .i64 3) ∧ w2.cell? ⟨w.heap.size, 1, none⟩ = some (.int .i64 0) ∧ w2.cell? ⟨w.heap.size, 2, none⟩ = some (.string ⟨#[]⟩) ∧ w2.cell? ⟨w.heap.size, 3, none⟩ = some (.slice (some ⟨g, 0, none⟩) n cap) := by
    intro w2 hb
    have hR2 := Hw1.out.2.1.below hb Hw1.out.2.1.lt
    exact ⟨hR2.cell 0, hR2.cell 1, hR2.cell 2, hR2.cell 3⟩
  have Hn4 := Lib.hid (fun w2 => @hn4 w2)
  have CW : Hid (∀ w2, Below w1.heap.size w1 w2 → Writer w2 w1.heap.size (w1.heap.size + 1) → Calls Tryd.prog 85 #[.slice none 0 0, listV g n cap, .pointer (some ⟨w1.heap.size + 1, 0, none⟩)] w2 fun e w' => ∃ v, e = .returned v ∧ Bs w'.heap.size w' v (encL l) ∧ (Below w1.heap.size w1 w2 → Below w1.heap.size w1 w')) := by
    refine Lib.hid (fun w2 hb hW => ?_)
    have h1 := Hw1.out.1.trans (hb.mono (Nat.le_of_lt (Nat.lt_of_lt_of_le Hw1.out.2.2.1 Hw1.out.2.2.2)))
    have hn := HH.out.2.2.1
    rw [hn] at hcap hmax ⊢
    refine (encode_tail l HH.out.2.2.2.2 g cap _ _ hcap hmax w2 (HH.out.2.2.2.1.below h1 hg) (Nat.lt_of_lt_of_le hg h1.size) hW).mono ?_
    rintro e w3 ⟨v3, rfl, h2, h3⟩
    exact ⟨v3, rfl, h2, fun h => h.trans (h3.mono h.size)⟩
  clear hn4
  go_region_with
    (first
      | (go_at_call 65
         refine (newWriter_any w1.drew).mono ?_
         rintro e w2 ⟨rfl, hW2, hB2⟩
         have hB2 : Below w1.heap.size w1 w2 := (drew_below w1).trans hB2
         obtain ⟨h40, h41, h42, h43⟩ := Hn4.out w2 hB2
         have hf : w2.cell? ⟨w1.heap.size, 3, none⟩ = some (.func (.func 85) #[] #[.pointer (some ⟨w1.heap.size + 1, 0, none⟩)]) := hW2.row.cell 3
         have HW := Lib.hid (And.intro hW2 hB2)
         clear hW2 hB2)
      | (go_at_call 85
         refine (CW.out w2 HW.out.2 HW.out.1).mono ?_
         rintro e w3 ⟨v3, rfl, hb3, hB3⟩
         have HF := Lib.hid (And.intro hb3 hB3)
         clear hb3 hB3))
  all_goals
    go_wp2_with fail
    go_ret2
    exact ⟨_, rfl, HF.out.1, Hw1.out.1.trans ((HF.out.2 HW.out.2).mono (Nat.le_of_lt (Nat.lt_of_lt_of_le Hw1.out.2.2.1 Hw1.out.2.2.2)))⟩
end Go.Proofs.YtgklcfipgdbbgaaDoor
