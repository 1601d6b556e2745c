/- codec: how a flat list is written; codec.Encode. -/
import Derived.StillTailTactics
import Derived.Deep.CutBlock
import Derived.Test.YtgklcfipgdbbgaaGreatDoorM18
namespace Go.Proofs.YtgklcfipgdbbgaaGreatDoor
open Go.RowKit
attribute [-go_sem] Builtin.append_

def It.enc : It → List UInt8
  | .text s => 2 :: numB s.data.toList.length ++ s.data.toList
  | .int n => 1 :: numB (zig n)

def encL (l : List It) : List UInt8 := 3 :: numB l.length ++ l.flatMap It.enc

theorem Own.drew {B : Nat} {w : World} {v : Value} {l : List UInt8} (h : Own B w v l) : Own B w.drew v l := h
theorem Writer.below {B b c : Nat} {w w' : World} (h : Writer w b c) (hb : Below B w w') (h1 : b < B) (h2 : c < B) : Writer w' b c := ⟨h.row.below hb h1, h.self.below hb h2⟩

/-- How much all items take at most. -/
def It.len : It → Nat
  | .text s => s.data.toList.length + 12
  | .int _ => 12
theorem It.enc_len (x : It) (h : x.ok) : x.enc.length ≤ x.len := by
  cases x with
  | text s =>
    have := numB_length 10 s.data.toList.length (by have : s.data.toList.length < 1000000 := h; omega)
    simp only [It.enc, It.len, List.length_append, List.length_cons]
    omega
  | int n =>
    have := numB_length 10 (zig n) (by have := (zig_eq n).2; omega)
    simp only [It.enc, It.len, List.length_cons]
    omega

set_option maxRecDepth 20000 in
set_option maxHeartbeats 2000000 in
theorem write_list {B : Nat} {w : World} {v : Value} {l0 : List UInt8} (h : Own B w v l0) (hB : B ≤ w.heap.size) (l : List It) (hok : ∀ x ∈ l, x.ok) (g cap b c : Nat) (hcap : l.length ≤ cap) (hmax : l.length < 1000000)
    (hl0 : l0.length ≤ 100) (hl : ItsAt w g l) (hg : g < B) (hw : Writer w b c) (hb : b < B) (hc : c < B) :
    Calls Tryz.prog 78 #[v, .agg #[.int .i64 3, .int .i64 0, .string ⟨#[]⟩, .slice (some ⟨g, 0, none⟩) l.length cap], .pointer (some ⟨c, 0, none⟩)] w fun e w' => ∃ v', e = .returned v' ∧ Own B w' v' (l0 ++ encL l) ∧ Gr w v w' v' := by
  obtain ⟨n, hn⟩ : ∃ n, n = l.length := ⟨_, rfl⟩
  rw [← hn] at hcap hmax ⊢
  obtain ⟨wb, hwb⟩ : ∃ x, x = w.alloc (.cells #[.int .i64 3, .int .i64 0, .string ⟨#[]⟩, .slice (some ⟨g, 0, none⟩) n cap] 59) := ⟨_, rfl⟩
  have hRb : RowIs wb w.heap.size 59 [.int .i64 3, .int .i64 0, .string ⟨#[]⟩, .slice (some ⟨g, 0, none⟩) n cap] := by rw [hwb]; exact RowIs.new w _ _
  have hGb : Gr w v wb v := by rw [hwb]; exact Gr.alloc _ _ _
  have hBb : Below w.heap.size w wb := by rw [hwb]; exact (Below.refl _ w).alloc (Nat.le_refl _) _
  have hwbs : wb.heap.size = w.heap.size + 1 := by rw [hwb]; simp
  obtain ⟨v1, w1, E1, hO1, hG1⟩ := append_byte_drew (h.below hBb (Nat.le_refl _)) (by omega) 3 (by omega)
  have hv : v.ownBlock ≠ some w.heap.size := fun he => by have := own_lt h _ he; omega
  have hG01 := hGb.trans hG1
  have hv1 : v1.ownBlock ≠ some w.heap.size := fun he => by
    rcases hG1.own _ he with h1 | h1
    · exact hv h1
    · omega
  have hc1 : w1.cell? ⟨w.heap.size, 3, none⟩ = some (.slice (some ⟨g, 0, none⟩) n cap) := (hG1.cell (by omega) hv 3).trans (hRb.cell 3)
  have hs1 : w.heap.size < w1.heap.size := by have := hG1.size; omega
  have C1 := Lib.hid (numeral_any hO1 (by have := hG01.size; omega) n (by omega) (by simp; omega))
  have e1 : IntKind.u64.wrap (n : Int) = (n : Int) := by rw [IntKind.wrap_u64]; omega
  have hcb : wb.cell? ⟨w.heap.size, 3, none⟩ = some (.slice (some ⟨g, 0, none⟩) n cap) := hRb.cell 3
  have H := Lib.hid (And.intro h (And.intro hG01 (And.intro hv1 (And.intro hn (And.intro hl (And.intro hw hok))))))
  clear h hO1 hG1 hG01 hGb hBb hv hv1 hRb hn hl hw hok
  go_enter Tryz.func78, Tryz.ntmps78
  go_upto_region 1 with fail
  rw [← hwb]
  rw [hwbs] at E1
  have E1 : (Builtin.append_ #[56, 56] 56 #[v, .slice (some ⟨w.heap.size + 1, 0, none⟩) 1 1]).run Tryz.prog (wb.alloc (.cells #[.int .u8 3] 5)).drew = .ok v1 w1 := E1
  have hne := World.new_ne wb ⟨w.heap.size, 3, none⟩ hcb
  clear hwb
  go_region_held3 (fun w' => w'.cell? ⟨w.heap.size, 3, none⟩ = some (.slice (some ⟨g, 0, none⟩) n cap)) (first | assumption | go_keep)
    (first
      | (refine step_append_run rfl _ _ _ _ (by rfl) _ _ (by rfl) (by rfl) v1 w1 E1 ?_)
      | (go_at_call 75
         refine C1.out.mono ?_
         rintro e w2 ⟨v2, rfl, hO2, hG2⟩
         have hc2 : w2.cell? ⟨w.heap.size, 3, none⟩ = some (.slice (some ⟨g, 0, none⟩) n cap) := (hG2.cell hs1 H.out.2.2.1 3).trans hc1
         have H2 := Lib.hid (And.intro hO2 (H.out.2.1.trans hG2))
         clear hO2 hG2))
  clear C1 E1 hne hc1
  go_wp2_with fail
  go_loopw [19, 0] (fun i vr wr => ∃ t : Nat, t ≤ n ∧ i = .int .i64 t ∧ Hid (Own B wr vr (l0 ++ [3] ++ numB n ++ (l.take t).flatMap It.enc)) ∧ Hid (Gr w v wr vr) ∧ Hid ((l0 ++ [3] ++ numB n ++ (l.take t).flatMap It.enc).length ≤ 200 + t * 1000012)) (fun i _ _ => n - (intOf i).toNat)
  case atStart =>
    refine ⟨0, by omega, rfl, Lib.hid (by simpa using H2.out.1), Lib.hid H2.out.2, Lib.hid ?_⟩
    have := numB_length 10 n (by omega)
    simp
    omega
  case round =>
    obtain ⟨t, ht, rfl, hO, hG, hL⟩ := hrel
    by_cases hlt : t < n
    · have htl : t < l.length := by rw [← H.out.2.2.2.1]; exact hlt
      obtain ⟨x, hx⟩ : ∃ x, x = l[t]'htl := ⟨_, rfl⟩
      have hxok : x.ok := H.out.2.2.2.2.2.2 x (by rw [hx]; exact List.getElem_mem _)
      have hB1 : Below B w wr := hG.out.below H.out.1 hB
      have hcs := fun j v => (H.out.2.2.2.2.1.below hB1 hg) t htl j v
      rw [← hx] at hcs
      have hW := H.out.2.2.2.2.2.1.below hB1 hb hc
      have hBr := hG.out.size
      have hnext : (l.take (t + 1)).flatMap It.enc = (l.take t).flatMap It.enc ++ x.enc := by
        rw [List.take_add_one, List.getElem?_eq_getElem htl, ← hx]; simp
      have hxl := x.enc_len hxok
      cases x with
      | text s =>
        have k0 := hcs 0 _ rfl
        have k1 := hcs 1 _ rfl
        have k2 := hcs 2 _ rfl
        have k3 := hcs 3 _ rfl
        rw [show 4 * t + 0 = t * 4 by omega] at k0
        rw [show 4 * t + 1 = t * 4 + 1 by omega] at k1
        rw [show 4 * t + 2 = t * 4 + 2 by omega] at k2
        rw [show 4 * t + 3 = t * 4 + 3 by omega] at k3
        obtain ⟨w5, hw5⟩ : ∃ w5, w5 = wr.alloc (.cells #[.int .i64 2, .int .i64 0, .string s, .slice none 0 0] 59) := ⟨_, rfl⟩
        have hR5 : RowIs w5 wr.heap.size 59 [.int .i64 2, .int .i64 0, .string s, .slice none 0 0] := by rw [hw5]; exact RowIs.new wr _ _
        have hB5 : Below wr.heap.size wr w5 := by rw [hw5]; exact (Below.refl _ wr).alloc (Nat.le_refl _) _
        have hW5 := hW.below hB5 (by omega) (by omega)
        have hG5 := Gr.of_below u0 hB5
        have C := Lib.hid (write_text (B := B) (w := w5.drew) (hO.out.below (hB5.trans ((drew_below w5).mono hB5.size)) (Nat.le_refl _)) (by have := hB5.size; show B ≤ w5.heap.size; omega) s (by have := hL.out; have h3 : s.data.toList.length < 1000000 := hxok; omega))
        have d0 := hR5.cell 0
        have d1 := hR5.cell 1
        have d2 := hR5.cell 2
        have d3 := hR5.cell 3
        have f0 := hW5.self.cell 0
        have f1 := hW5.row.cell 2
        simp only [List.getElem?_cons_zero, List.getElem?_cons_succ] at d0 d1 d2 d3 f0 f1
        have HH := Lib.hid (And.intro hG5 (And.intro hB5 hnext))
        have Hxl := Lib.hid hxl
        clear hR5 hW5 hG5 hB5 hcs hnext hxl hB1 hx
        go_upto_region 5 with fail
        rw [← hw5]
        clear hw5 k0 k1 k2 k3
        go_still_tail 9, (by kernel_rfl)
        go_wp2_with fail
        refine C.out.mono ?_
        rintro e w6 ⟨v6, rfl, hO6, hG6⟩
        have HF : Hid (Own B w6 v6 (l0 ++ [3] ++ numB n ++ (l.take (t + 1)).flatMap It.enc) ∧ Gr w v w6 v6 ∧ (l0 ++ [3] ++ numB n ++ (l.take (t + 1)).flatMap It.enc).length ≤ 200 + (t + 1) * 1000012) := by
          rw [HH.out.2.2, ← List.append_assoc]
          refine Lib.hid ⟨hO6, hG.out.trans ((HH.out.1.trans (Gr.of_below u0 (drew_below w5))).trans hG6), ?_⟩
          rw [List.length_append]
          have h1 := hL.out
          have h2 := Hxl.out
          simp only [It.len] at h2
          have h3 := hxok
          simp only [It.ok] at h3
          omega
        clear hO6 hG6
        go_wp2_with fail
        exact ⟨⟨t + 1, by omega, by go_num, Lib.hid HF.out.1, Lib.hid HF.out.2.1, Lib.hid HF.out.2.2⟩, by simp [intOf]; omega⟩
      | int m =>
        have k0 := hcs 0 _ rfl
        have k1 := hcs 1 _ rfl
        have k2 := hcs 2 _ rfl
        have k3 := hcs 3 _ rfl
        rw [show 4 * t + 0 = t * 4 by omega] at k0
        rw [show 4 * t + 1 = t * 4 + 1 by omega] at k1
        rw [show 4 * t + 2 = t * 4 + 2 by omega] at k2
        rw [show 4 * t + 3 = t * 4 + 3 by omega] at k3
        obtain ⟨w5, hw5⟩ : ∃ w5, w5 = wr.alloc (.cells #[.int .i64 1, .int .i64 m, .string ⟨#[]⟩, .slice none 0 0] 59) := ⟨_, rfl⟩
        have hR5 : RowIs w5 wr.heap.size 59 [.int .i64 1, .int .i64 m, .string ⟨#[]⟩, .slice none 0 0] := by rw [hw5]; exact RowIs.new wr _ _
        have hB5 : Below wr.heap.size wr w5 := by rw [hw5]; exact (Below.refl _ wr).alloc (Nat.le_refl _) _
        have hW5 := hW.below hB5 (by omega) (by omega)
        have hG5 := Gr.of_below u0 hB5
        have C := Lib.hid (write_int (B := B) (w := w5.drew) (hO.out.below (hB5.trans ((drew_below w5).mono hB5.size)) (Nat.le_refl _)) (by have := hB5.size; show B ≤ w5.heap.size; omega) m (by have := hL.out; omega))
        have d0 := hR5.cell 0
        have d1 := hR5.cell 1
        have d2 := hR5.cell 2
        have d3 := hR5.cell 3
        have f0 := hW5.self.cell 0
        have f1 := hW5.row.cell 1
        simp only [List.getElem?_cons_zero, List.getElem?_cons_succ] at d0 d1 d2 d3 f0 f1
        have HH := Lib.hid (And.intro hG5 (And.intro hB5 hnext))
        have Hxl := Lib.hid hxl
        clear hR5 hW5 hG5 hB5 hcs hnext hxl hB1 hx
        go_upto_region 5 with fail
        rw [← hw5]
        clear hw5 k0 k1 k2 k3
        go_still_tail 9, (by kernel_rfl)
        go_wp2_with fail
        refine C.out.mono ?_
        rintro e w6 ⟨v6, rfl, hO6, hG6⟩
        have HF : Hid (Own B w6 v6 (l0 ++ [3] ++ numB n ++ (l.take (t + 1)).flatMap It.enc) ∧ Gr w v w6 v6 ∧ (l0 ++ [3] ++ numB n ++ (l.take (t + 1)).flatMap It.enc).length ≤ 200 + (t + 1) * 1000012) := by
          rw [HH.out.2.2, ← List.append_assoc]
          refine Lib.hid ⟨hO6, hG.out.trans ((HH.out.1.trans (Gr.of_below u0 (drew_below w5))).trans hG6), ?_⟩
          rw [List.length_append]
          have h1 := hL.out
          have h2 := Hxl.out
          simp only [It.len] at h2
          have h3 := hxok
          simp only [It.ok] at h3
          omega
        clear hO6 hG6
        go_wp2_with fail
        exact ⟨⟨t + 1, by omega, by go_num, Lib.hid HF.out.1, Lib.hid HF.out.2.1, Lib.hid HF.out.2.2⟩, by simp [intOf]; omega⟩
    · obtain rfl : t = n := by omega
      go_wp2_with fail
      go_ret
      refine ⟨_, rfl, ?_, hG.out⟩
      have := hO.out
      rw [List.take_of_length_le (by rw [← H.out.2.2.2.1]; omega)] at this
      have hnl : t = l.length := H.out.2.2.2.1
      unfold encL
      rw [← hnl]
      simpa using this
end Go.Proofs.YtgklcfipgdbbgaaGreatDoor
