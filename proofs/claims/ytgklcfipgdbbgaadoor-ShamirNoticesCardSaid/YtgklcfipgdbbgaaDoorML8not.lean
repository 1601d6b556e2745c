/- chartroomlaw08.ShamirNotices, walked. -/
import Derived.Test.YtgklcfipgdbbgaaDoorMSpF
namespace Go.Proofs.YtgklcfipgdbbgaaDoor
open Go.RowKit
attribute [-go_sem] Builtin.append_

/-- One share is changed in its own row. -/
theorem own_set {B : Nat} {w : World} {g n cap : Nat} {l : Chart.Rs} (h : OwnS B w (.slice (some ⟨g, 0, none⟩) n cap) l) {i : Nat} (hi : i < l.length) (y : Int) :
    w.cell? ⟨g, i * 2 + 1, none⟩ = some (.int .i64 l[i].2) ∧ w.frozen? ⟨g, i * 2 + 1, none⟩ = false ∧ OwnS B (w.setCell ⟨g, i * 2 + 1, none⟩ (.int .i64 y)) (.slice (some ⟨g, 0, none⟩) n cap) (l.set i (l[i].1, y)) := by
  have h0 := h
  obtain ⟨h1, ⟨h2, _⟩ | ⟨g', cap', cur, hv, hg, hc, hcap, hm, hs, ht⟩⟩ := h
  · cases h2
  · simp only [Value.slice.injEq, Option.some.injEq, Addr.mk.injEq, and_true] at hv
    obtain ⟨rfl, hnl, rfl⟩ := hv
    have hr : RowIs w g 42 cur.toList := hc
    have hn : n = l.length := hnl
    subst hn
    refine ⟨?_, hr.frozen _, ?_, .inr ⟨g, cap, cur.setIfInBounds (i * 2 + 1) (.int .i64 y), ?_, hg, ?_, ?_, hm, by rw [Array.size_setIfInBounds]; exact hs, ?_⟩⟩
    · rw [World.ownsRow.cellAt h0 (i * 2 + 1) (by omega)]
      exact (shC_at l i hi).2
    · rw [shC_length]
    · rw [List.length_set]
    · have h3 := hr.set (i * 2 + 1) (.int .i64 y)
      have h4 : cur.toList.set (i * 2 + 1) (.int .i64 y) = (cur.setIfInBounds (i * 2 + 1) (.int .i64 y)).toList := by simp
      rw [h4] at h3
      exact h3
    · rw [List.length_set]; exact hcap
    · rw [List.length_set, Array.toList_setIfInBounds, List.take_set, ht]
      exact shC_set l i y hi

set_option maxRecDepth 20000 in
set_option maxHeartbeats 4000000 in
theorem snot_early (x need many : Int) (k : List UInt8) (z y : Int) (w : World) (hk : k.length = 32) (hl : Laid w) (m1 : 12 < many) (m2 : many ≤ 64) :
    Calls Tryd.prog 6 #[.int .i64 x, .int .i64 need, .int .i64 many, .agg (k.map u8v).toArray, .int .u64 z, .int .i64 y] w fun e w' => e = .returned (.bool true) ∧ Below w.heap.size w w' := by
  obtain ⟨d, hd⟩ : ∃ d, d = k.map u8v := ⟨_, rfl⟩
  rw [← hd]
  have hdl : d.length = 32 := by rw [hd, List.length_map, hk]
  obtain ⟨w1, hw1⟩ : ∃ w1, w1 = w.alloc (.cells d.toArray 33) := ⟨_, rfl⟩
  have hB1 : Below w.heap.size w w1 := by rw [hw1]; exact (Below.refl _ _).alloc (Nat.le_refl _) _
  have hR1 : RowIs w1 w.heap.size 33 d := by rw [hw1]; exact RowIs.new w d _
  have F1 := Lib.hid (And.intro hB1 (And.intro (hl.below hB1 hl.numLt hl.startLt) hR1))
  clear hd hdl
  clear hB1 hR1 hl
  go_enter Tryd.func6, Tryd.ntmps6
  go_upto_region 1 with fail
  rw [← hw1]
  clear hw1
  go_wp2_with fail
  refine (sane_ok w1 F1.out.2.1).mono ?_
  rintro e v2 ⟨rfl, hB2⟩
  have F3 := Lib.hid (And.intro (F1.out.1.trans (hB2.mono F1.out.1.size)) (And.intro (F1.out.2.1.below hB2 F1.out.2.1.numLt F1.out.2.1.startLt) (RowIs.below F1.out.2.2 hB2 (RowIs.lt F1.out.2.2))))
  clear hB2
  go_wp2_with fail
  go_ret
  exact ⟨rfl, F3.out.1⟩

set_option maxRecDepth 20000 in
set_option maxHeartbeats 4000000 in
theorem snot_bad (x need many : Int) (k : List UInt8) (z y : Int) (w : World) (hk : k.length = 32) (hl : Laid w) (m1 : many ≤ 12 ∨ 64 < many) (c : Int) (c1 : (c == 0) = false) (c2 : (c != 0) = true)
    (hC : ∀ w, Calls Tryd.prog 16 #[.int .i64 x, .int .i64 need, .int .i64 many, .agg (k.map u8v).toArray] w fun e w' => e = noS c ∧ Below w.heap.size w w') :
    Calls Tryd.prog 6 #[.int .i64 x, .int .i64 need, .int .i64 many, .agg (k.map u8v).toArray, .int .u64 z, .int .i64 y] w fun e w' => e = .returned (.bool true) ∧ Below w.heap.size w w' := by
  obtain ⟨d, hd⟩ : ∃ d, d = k.map u8v := ⟨_, rfl⟩
  rw [← hd]
  have hdl : d.length = 32 := by rw [hd, List.length_map, hk]
  obtain ⟨w1, hw1⟩ : ∃ w1, w1 = w.alloc (.cells d.toArray 33) := ⟨_, rfl⟩
  have hB1 : Below w.heap.size w w1 := by rw [hw1]; exact (Below.refl _ _).alloc (Nat.le_refl _) _
  have hR1 : RowIs w1 w.heap.size 33 d := by rw [hw1]; exact RowIs.new w d _
  have F1 := Lib.hid (And.intro hB1 (And.intro (hl.below hB1 hl.numLt hl.startLt) hR1))
  have CS := Lib.hid hC
  rw [← hd] at CS
  clear hd hC
  have hcase : many ≤ 12 ∨ (12 < many ∧ 64 < many) := by omega
  clear m1
  clear hB1 hR1 hl
  go_enter Tryd.func6, Tryd.ntmps6
  go_upto_region 1 with fail
  rw [← hw1]
  clear hw1
  go_wp2_with fail
  refine (sane_ok w1 F1.out.2.1).mono ?_
  rintro e v2 ⟨rfl, hB2⟩
  have F3 := Lib.hid (And.intro (F1.out.1.trans (hB2.mono F1.out.1.size)) (And.intro (F1.out.2.1.below hB2 F1.out.2.1.numLt F1.out.2.1.startLt) (RowIs.below F1.out.2.2 hB2 (RowIs.lt F1.out.2.2))))
  clear hB2
  have L4 := (F3.out.2.2).loads (P := Tryd.prog) 32 hdl
  rcases hcase with m1 | ⟨m1, m2⟩
  all_goals
    go_wp2_with fail
    refine (CS.out v2).mono ?_
    rintro e v5 ⟨rfl, hB5⟩
    have F6 := Lib.hid (And.intro (F3.out.1.trans (hB5.mono F3.out.1.size)) (And.intro (F3.out.2.1.below hB5 F3.out.2.1.numLt F3.out.2.1.startLt) (RowIs.below F3.out.2.2 hB5 (RowIs.lt F3.out.2.2))))
    clear hB5
    go_wp2_with fail
    go_ret
    exact ⟨rfl, F6.out.1⟩

set_option maxRecDepth 20000 in
set_option maxHeartbeats 4000000 in
theorem snot_arg (s : Chart.F) (need many : Nat) (n1 : 1 ≤ need) (n2 : need ≤ many) (n3 : many ≤ 12) (k : List UInt8) (z y : Int) (w : World) (hk : k.length = 32) (hl : Laid w) (hb : (many : Int) ≤ (need : Int) ∨ y < 0 ∨ 2305843009213688669 ≤ y) :
    Calls Tryd.prog 6 #[fv s, .int .i64 (need : Nat), .int .i64 (many : Nat), .agg (k.map u8v).toArray, .int .u64 z, .int .i64 y] w fun e w' => e = .returned (.bool true) ∧ Below w.heap.size w w' := by
  have m64 : many ≤ 64 := by omega
  have CS := fun w (hl : Laid w) => split_ok s need many n1 n2 m64 k hk w hl
  obtain ⟨d, hd⟩ : ∃ d, d = k.map u8v := ⟨_, rfl⟩
  rw [← hd]
  have hdl : d.length = 32 := by rw [hd, List.length_map, hk]
  obtain ⟨w1, hw1⟩ : ∃ w1, w1 = w.alloc (.cells d.toArray 33) := ⟨_, rfl⟩
  have hB1 : Below w.heap.size w w1 := by rw [hw1]; exact (Below.refl _ _).alloc (Nat.le_refl _) _
  have hR1 : RowIs w1 w.heap.size 33 d := by rw [hw1]; exact RowIs.new w d _
  have F1 := Lib.hid (And.intro hB1 (And.intro (hl.below hB1 hl.numLt hl.startLt) hR1))
  rw [← hd] at CS
  replace CS := Lib.hid CS
  obtain ⟨N, hN⟩ : ∃ N : Int, N = (need : Nat) := ⟨_, rfl⟩
  obtain ⟨M, hM⟩ : ∃ M : Int, M = (many : Nat) := ⟨_, rfl⟩
  rw [← hN, ← hM] at CS ⊢
  have b3 : M ≤ 12 := by omega
  have hcase : M ≤ N ∨ (¬ M ≤ N ∧ y < 0) ∨ (¬ M ≤ N ∧ ¬ y < 0 ∧ 2305843009213688669 ≤ y) := by omega
  clear hd hN hM hb n1 n2 n3 m64
  clear hB1 hR1 hl
  go_enter Tryd.func6, Tryd.ntmps6
  go_upto_region 1 with fail
  rw [← hw1]
  clear hw1
  go_wp2_with fail
  refine (sane_ok w1 F1.out.2.1).mono ?_
  rintro e v2 ⟨rfl, hB2⟩
  have F3 := Lib.hid (And.intro (F1.out.1.trans (hB2.mono F1.out.1.size)) (And.intro (F1.out.2.1.below hB2 F1.out.2.1.numLt F1.out.2.1.startLt) (RowIs.below F1.out.2.2 hB2 (RowIs.lt F1.out.2.2))))
  clear hB2
  have L4 := (F3.out.2.2).loads (P := Tryd.prog) 32 hdl
  rcases hcase with q1 | ⟨q1, q2⟩ | ⟨q1, q2, q3⟩
  all_goals
    go_wp2_with fail
    refine (CS.out v2 F3.out.2.1).mono ?_
    rintro e v5 ⟨u, rfl, hO, hB5⟩
    have F6 := Lib.hid (And.intro (F3.out.1.trans (hB5.mono F3.out.1.size)) (And.intro (F3.out.2.1.below hB5 F3.out.2.1.numLt F3.out.2.1.startLt) (RowIs.below F3.out.2.2 hB5 (RowIs.lt F3.out.2.2))))
    clear hB5
    clear hO
    go_wp2_with fail
    go_ret
    exact ⟨rfl, F6.out.1⟩

set_option maxRecDepth 20000 in
set_option maxHeartbeats 4000000 in
theorem snot_ok (s : Chart.F) (need many : Nat) (n1 : 1 ≤ need) (n2 : need < many) (n3 : many ≤ 12) (k : List UInt8) (z : Int) (y : Chart.F) (w : World) (hk : k.length = 32) (hl : Laid w) (hz0 : 0 ≤ z) :
    Calls Tryd.prog 6 #[fv s, .int .i64 (need : Nat), .int .i64 (many : Nat), .agg (k.map u8v).toArray, .int .u64 z, fv y] w fun e w' => e = .returned (.bool true) ∧ Below w.heap.size w w' := by
  have m64 : many ≤ 64 := by omega
  have CS := fun w (hl : Laid w) => split_ok s need many n1 (by omega) m64 k hk w hl
  obtain ⟨i, hi⟩ : ∃ i, i = z.toNat % many := ⟨_, rfl⟩
  have him : i < many := by rw [hi]; exact Nat.mod_lt _ (by omega)
  have lL := Chart.splitS_length (coefs s k need) many
  have hch := sp_changed s k need many n1 (by omega) m64 i him n2 y
  have oL := sp_ok s k need many n1 (by omega) m64
  have hch' : ∀ L, L = Chart.splitS (coefs s k need) many → ∀ (h : i < L.length), Chart.fits (L.set i (L[i].1, y)) need = (y == L[i].2) := by rintro L rfl h; exact hch
  clear hch
  obtain ⟨L, hL⟩ : ∃ L, L = Chart.splitS (coefs s k need) many := ⟨_, rfl⟩
  have hch := hch' L hL
  rw [← hL] at CS lL oL
  clear hch' hL
  have hiL : i < L.length := by omega
  obtain ⟨t, ht⟩ : ∃ t, t = L[i] := ⟨_, rfl⟩
  have hch2 : Chart.fits (L.set i (t.1, y)) need = (y == t.2) := by rw [ht]; exact hch hiL
  have hrs : (Chart.raw L).set i (((Chart.raw L)[i]'(by rw [Chart.raw_length]; exact hiL)).1, (y.val : Int)) = Chart.raw (L.set i (t.1, y)) := by
    rw [raw_at, ← ht]
    unfold Chart.raw
    rw [List.map_set]
    rfl
  have oX : Chart.okS (Chart.raw (L.set i (t.1, y))) = true := by
    refine Chart.okS_places oL ?_
    unfold Chart.places
    rw [List.map_set]
    apply List.ext_getElem
    · simp
    · intro j h1 h2
      rw [List.getElem_set]
      split
      · rename_i hij; subst hij; rw [List.getElem_map, ht]
      · rfl
  have CF := fits_ok _ oX need n1 (by omega)
  rw [hch2] at CF
  obtain ⟨b, hb⟩ : ∃ b, b = (y == t.2) := ⟨_, rfl⟩
  rw [← hb] at CF
  have hbe : ((y.val : Int) == (t.2.val : Int)) = b := by
    rw [hb, Bool.eq_iff_iff, beq_iff_eq, beq_iff_eq]
    exact ⟨fun h => Fin.ext (by omega), fun h => by rw [h]⟩
  have hlen : (Chart.raw L).length = many := by rw [Chart.raw_length, lL]
  obtain ⟨d, hd⟩ : ∃ d, d = k.map u8v := ⟨_, rfl⟩
  rw [← hd]
  have hdl : d.length = 32 := by rw [hd, List.length_map, hk]
  obtain ⟨w1, hw1⟩ : ∃ w1, w1 = w.alloc (.cells d.toArray 33) := ⟨_, rfl⟩
  have hB1 : Below w.heap.size w w1 := by rw [hw1]; exact (Below.refl _ _).alloc (Nat.le_refl _) _
  have hR1 : RowIs w1 w.heap.size 33 d := by rw [hw1]; exact RowIs.new w d _
  have F1 := Lib.hid (And.intro hB1 (And.intro (hl.below hB1 hl.numLt hl.startLt) hR1))
  rw [← hd] at CS
  replace CS := Lib.hid CS
  replace CF := Lib.hid CF
  have HL := Lib.hid (And.intro hlen (And.intro hrs (And.intro hiL ht)))
  have hyq : y.val < 2305843009213688669 := y.isLt
  obtain ⟨Y, hY⟩ : ∃ Y : Int, Y = (y.val : Int) := ⟨_, rfl⟩
  obtain ⟨T, hT⟩ : ∃ T : Int, T = (t.2.val : Int) := ⟨_, rfl⟩
  rw [← hY, ← hT] at hbe
  obtain ⟨N, hN⟩ : ∃ N : Int, N = (need : Nat) := ⟨_, rfl⟩
  obtain ⟨M, hM⟩ : ∃ M : Int, M = (many : Nat) := ⟨_, rfl⟩
  show Calls _ _ #[_, .int .i64 ((need : Nat) : Int), .int .i64 ((many : Nat) : Int), _, _, .int .i64 (y.val : Int)] _ _
  rw [← hN, ← hM] at CS
  rw [← hN] at CF
  rw [← hN, ← hM, ← hY]
  have b2 : ¬ M ≤ N := by omega
  have b3 : M ≤ 12 := by omega
  have b4 : ¬ M < 1 := by omega
  have b5 : ¬ Y < 0 := by omega
  have b6 : ¬ 2305843009213688669 ≤ Y := by omega
  have bM : ((many : Int) != M) = false := by rw [hM]; simp
  have e1 : IntKind.u64.wrap M = M := by rw [hM]; exact wrap_small many (by omega)
  have e2 : z.tmod M = (i : Int) := by rw [Int.tmod_eq_emod_of_nonneg hz0, hM, hi]; show z % (many : Int) = ((z.toNat % many : Nat) : Int); rw [show ((z.toNat % many : Nat) : Int) = (z.toNat : Int) % (many : Int) from rfl, Int.toNat_of_nonneg hz0]
  have e3 : IntKind.i64.wrap (i : Int) = (i : Int) := wrap_i64_small _ (by omega) (by omega)
  have e4 : IntKind.u64.wrap (i : Int) = (i : Int) := wrap_small i (by omega)
  have e5 : (M == 0) = false := beq_eq_false_iff_ne.2 (by omega)
  have him2 : (i : Int) < (many : Int) := by omega
  have hm12 : many ≤ 1000 := by omega
  have HY := Lib.hid (And.intro hY hT)
  clear hd hlen hrs ht hN hM hY hT hb hch hch2 oX oL lL hi hyq n1 n2 n3 m64 him
  clear hB1 hR1 hl
  go_enter Tryd.func6, Tryd.ntmps6
  go_upto_region 1 with fail
  rw [← hw1]
  clear hw1
  go_wp2_with fail
  refine (sane_ok w1 F1.out.2.1).mono ?_
  rintro e v2 ⟨rfl, hB2⟩
  have F3 := Lib.hid (And.intro (F1.out.1.trans (hB2.mono F1.out.1.size)) (And.intro (F1.out.2.1.below hB2 F1.out.2.1.numLt F1.out.2.1.startLt) (RowIs.below F1.out.2.2 hB2 (RowIs.lt F1.out.2.2))))
  clear hB2
  have L4 := (F3.out.2.2).loads (P := Tryd.prog) 32 hdl
  go_wp2_with fail
  refine (CS.out v2 F3.out.2.1).mono ?_
  rintro e v5 ⟨u, rfl, hO, hB5⟩
  have F6 := Lib.hid (And.intro (F3.out.1.trans (hB5.mono F3.out.1.size)) (And.intro (F3.out.2.1.below hB5 F3.out.2.1.numLt F3.out.2.1.startLt) (And.intro (RowIs.below F3.out.2.2 hB5 (RowIs.lt F3.out.2.2)) hO.view)))
  clear hB5
  clear hO L4
  obtain ⟨au, cu, hu, -, hux⟩ := (F6.out.2.2.2).shape
  rw [HL.out.1] at hu
  subst hu
  obtain ⟨gu, ou, rfl, hgu, hSu⟩ := hux (by intro h0; have h5 := HL.out.1; have h6 := HL.out.2.2.1; rw [h0] at h5; simp at h5; omega)
  have hiR : i < (Chart.raw L).length := by rw [Chart.raw_length]; exact HL.out.2.2.1
  obtain ⟨u1, w2, E1, hO1, hB2⟩ := append_copy F6.out.2.2.2 (by rw [HL.out.1]; exact hm12)
  obtain ⟨gx, cx, rfl, hgx⟩ : ∃ gx cx, u1 = .slice (some ⟨gx, 0, none⟩) many cx ∧ v5.heap.size ≤ gx := by
    have hb := ownR_block hO1
    obtain ⟨_, ⟨_, hn⟩ | ⟨g, cap, cur, rfl, hg, _⟩⟩ := hO1
    · have := HL.out.1; omega
    · rw [HL.out.1]; exact ⟨g, cap, rfl, hg⟩
  obtain ⟨kx, fz, hO2⟩ := own_set hO1 hiR Y
  rw [HY.out.1, HL.out.2.1, ← HY.out.1] at hO2
  obtain ⟨w3, hw3⟩ : ∃ w3, w3 = w2.setCell ⟨gx, i * 2 + 1, none⟩ (.int .i64 Y) := ⟨_, rfl⟩
  rw [← hw3] at hO2
  have hB3 : Below v5.heap.size v5 w3 := by rw [hw3]; exact below_setCell hB2 hgx _ _
  have hSx := hO2.view
  have ku := ((hSu.below hB3 hgu) i hiR).2
  rw [raw_at, ← HL.out.2.2.2] at ku
  have KU : Hid (∀ w4, Below w3.heap.size w3 w4 → w4.cell? ⟨gu, ou + i * 2 + 1, none⟩ = some (.int .i64 T)) := Lib.hid (fun w4 hb => by rw [(bcell hb).1 gu _ (Nat.lt_of_lt_of_le hgu hB3.size), HY.out.2]; exact ku)
  have F7 := Lib.hid (And.intro (F6.out.1.trans (hB3.mono F6.out.1.size)) (And.intro (F6.out.2.1.below hB3 F6.out.2.1.numLt F6.out.2.1.startLt) (And.intro (RowIs.below F6.out.2.2.1 hB3 (RowIs.lt F6.out.2.2.1)) (And.intro ((Sv.below F6.out.2.2.2 hB3).mono hB3.size) hSx))))
  have hw3b := hw3.symm
  clear hw3 hO1 hO2 hB2 hB3 hSx ku hSu hgu hgx hux
  go_wp2_with fail
  refine (CF.out _ w3 F7.out.2.2.2.2).mono ?_
  rintro e v8 ⟨rfl, hB8⟩
  have F9 := Lib.hid (And.intro (F7.out.1.trans (hB8.mono F7.out.1.size)) (And.intro (F7.out.2.1.below hB8 F7.out.2.1.numLt F7.out.2.1.startLt) (And.intro (RowIs.below F7.out.2.2.1 hB8 (RowIs.lt F7.out.2.2.1)) (And.intro ((Sv.below F7.out.2.2.2.1 hB8).mono hB8.size) ((Sv.below F7.out.2.2.2.2 hB8).mono hB8.size)))))
  have hBx := hB8
  clear hB8
  have kt := KU.out _ hBx
  clear hBx
  go_wp2_with fail
  go_ret
  exact ⟨by first | rfl | simp, F9.out.1⟩

theorem snot_walk (x need many : Int) (k : List UInt8) (z y : Int) (w : World) (hk : k.length = 32) (hz : 0 ≤ z ∧ z ≤ 18446744073709551615) (hl : Laid w) :
    Calls Tryd.prog 6 #[.int .i64 x, .int .i64 need, .int .i64 many, .agg (k.map u8v).toArray, .int .u64 z, .int .i64 y] w fun e w' => e = .returned (.bool true) ∧ Below w.heap.size w w' := by
  by_cases hm : 12 < many ∧ many ≤ 64
  · exact snot_early x need many k z y w hk hl hm.1 hm.2
  cases ho : outB x
  · by_cases hb : need < 1 ∨ many < need ∨ 64 < many
    · exact snot_bad x need many k z y w hk hl (by omega) 80 rfl rfl (fun w => split_bad x need many ho hb k w)
    · obtain ⟨h0, h1⟩ := outB_false ho
      obtain ⟨a, rfl⟩ := Int.eq_ofNat_of_zero_le h0
      obtain ⟨n, rfl⟩ := Int.eq_ofNat_of_zero_le (show 0 ≤ need by omega)
      obtain ⟨m, rfl⟩ := Int.eq_ofNat_of_zero_le (show 0 ≤ many by omega)
      have ha : a < Chart.Q := by rw [Q_eq]; omega
      have e : ((a : Nat) : Int) = ((Chart.fx a).val : Int) := by rw [Chart.fx_val ha]
      show Calls _ _ #[.int .i64 ((a : Nat) : Int), _, _, _, _, _] _ _
      rw [e]
      by_cases hc : (m : Int) ≤ (n : Int) ∨ y < 0 ∨ 2305843009213688669 ≤ y
      · exact snot_arg (Chart.fx a) n m (by omega) (by omega) (by omega) k z y w hk hl hc
      · obtain ⟨b, rfl⟩ := Int.eq_ofNat_of_zero_le (show 0 ≤ y by omega)
        have hb : b < Chart.Q := by rw [Q_eq]; omega
        have e2 : ((b : Nat) : Int) = ((Chart.fx b).val : Int) := by rw [Chart.fx_val hb]
        show Calls _ _ #[_, _, _, _, _, .int .i64 ((b : Nat) : Int)] _ _
        rw [e2]
        exact snot_ok (Chart.fx a) n m (by omega) (by omega) (by omega) k z (Chart.fx b) w hk hl hz.1
  · exact snot_bad x need many k z y w hk hl (by omega) 1 rfl rfl (fun w => split_arg x need many ho k w)

end Go.Proofs.YtgklcfipgdbbgaaDoor
