/- chartroomlaw11.ProxyLockSpec, walked. -/
import Derived.Deep.RegionHeld3
import Derived.Test.YtejjincnghmbbaaGreatDoorMRf11o
import Derived.Test.YtejjincnghmbbaaGreatDoorM25
namespace Go.Proofs.YtejjincnghmbbaaGreatDoor
open Go.RowKit

theorem capEqz (a b : Int) (pad : List UInt8) (hp : pad.length = 32) : ∀ w, (eqlCap (capV a b pad).toArray (capV a b pad).toArray).run Tryz.prog w = .ok (.bool true) w := fun w => by
  have := run_eqlCap a b a b pad pad hp hp w
  simp only [beq_self_eq_true, Bool.and_true] at this
  exact this
theorem row_below {w w' : World} {g : Nat} {t : TypeId} {cs : List Value} (hb : Below w.heap.size w w') (h : RowIs w g t cs) : RowIs w' g t cs := h.below hb h.lt
theorem below_on {w0 w w' : World} (h : Below w0.heap.size w0 w) (hb : Below w.heap.size w w') : Below w0.heap.size w0 w' := h.trans (hb.mono h.size)

theorem lock_both (y : Int) (k seed : List UInt8) (hk : k.length = 32) (hs : seed.length = 32) : ∃ (A B : Int) (p : List UInt8) (e : Int), p.length = 32 ∧
    (∀ w, Laid w → Calls Tryz.prog 5 #[.int .i64 y, .agg (k.map u8v).toArray, .agg (seed.map u8v).toArray] w fun r w' => r = .returned (.tuple #[.agg (capV A B p).toArray, .int .i64 e]) ∧ Below w.heap.size w w') ∧
    (∀ w, Calls Tryz.prog 6 #[.int .i64 y, .agg (k.map u8v).toArray, .agg (seed.map u8v).toArray] w fun r w' => r = .returned (.tuple #[.agg (capV A B p).toArray, .int .i64 e]) ∧ Below w.heap.size w w') := by
  by_cases hy : IsGrp y
  · obtain ⟨n, rfl, hn⟩ := hy
    exact ⟨_, _, _, 0, Chart.comb_length hk _, fun w hl => lock_ok n k seed hk hs hn w hl, rlock_ok n k seed hk hs hn⟩
  · exact ⟨0, 0, zeroPad, 40, rfl, fun w _ => lock_bad y k seed hy w, rlock_bad y k seed hk hs hy⟩

theorem open_both (x A B : Int) (pad : List UInt8) (hp : pad.length = 32) : ∃ (o : List UInt8) (e : Int), o.length = 32 ∧
    (∀ w, Laid w → Calls Tryz.prog 7 #[.int .i64 x, .agg (capV A B pad).toArray] w fun r w' => r = .returned (.tuple #[.agg (o.map u8v).toArray, .int .i64 e]) ∧ Below w.heap.size w w') ∧
    (∀ w, Calls Tryz.prog 8 #[.int .i64 x, .agg (capV A B pad).toArray] w fun r w' => r = .returned (.tuple #[.agg (o.map u8v).toArray, .int .i64 e]) ∧ Below w.heap.size w w') := by
  rcases key_or x with h | ⟨k, rfl, hk0, hk⟩
  · exact ⟨List.replicate 32 0, 50, rfl, fun w _ => open_key x A B pad hp h w, ropen_key x A B pad h⟩
  · have hQ := Q_eq
    by_cases hg : IsGrp A ∧ IsGrp B
    · obtain ⟨⟨a, rfl, ha⟩, ⟨b, rfl, hb⟩⟩ := hg
      exact ⟨_, 0, Chart.comb_length hp _, fun w hl => open_ok k a b pad hp hk0 hk ha hb w hl, ropen_ok k a b pad hp hk0 hk ha hb⟩
    · exact ⟨List.replicate 32 0, 110, rfl, fun w _ => open_cap k (by omega) (by omega) A B pad hp hg w, ropen_cap k (by omega) (by omega) A B pad hp hg⟩

theorem check_both (A B : Int) (pad : List UInt8) : ∃ e : Int,
    (∀ w, Calls Tryz.prog 9 #[.agg (capV A B pad).toArray] w fun r w' => r = .returned (.int .i64 e) ∧ Below w.heap.size w w') ∧
    (∀ w, Calls Tryz.prog 10 #[.agg (capV A B pad).toArray] w fun r w' => r = .returned (.int .i64 e) ∧ Below w.heap.size w w') := by
  by_cases hg : IsGrp A ∧ IsGrp B
  · obtain ⟨⟨a, rfl, ha⟩, ⟨b, rfl, hb⟩⟩ := hg
    exact ⟨0, pcheck_ok a b pad ha hb, rpcheck_ok a b pad ha hb⟩
  · exact ⟨110, pcheck_bad A B pad hg, rpcheck_bad A B pad hg⟩

set_option maxRecDepth 20000 in
set_option maxHeartbeats 16000000 in
theorem lockspec_walk (y : Int) (k seed : List UInt8) (x A B : Int) (pad : List UInt8) (hk : k.length = 32) (hs : seed.length = 32) (hp : pad.length = 32) (w : World) (hl : Laid w) :
    Calls Tryz.prog 3 #[.int .i64 y, .agg (k.map u8v).toArray, .agg (seed.map u8v).toArray, .int .i64 x, .agg (capV A B pad).toArray] w fun e w' => e = .returned (.bool true) ∧ Below w.heap.size w w' := by
  obtain ⟨A1, B1, p1, e1, hp1, L1, L2⟩ := lock_both y k seed hk hs
  obtain ⟨o, e2, ho, O1, O2⟩ := open_both x A B pad hp
  obtain ⟨e3, K1, K2⟩ := check_both A B pad
  have EA := capEqz A1 B1 p1 hp1
  have EK := run_eqlKey o o ho ho
  rw [beq_self_eq_true] at EK
  obtain ⟨a, ha⟩ : ∃ a, a = k.map u8v := ⟨_, rfl⟩
  have hal : a.length = 32 := by rw [ha]; rw [List.length_map, hk]
  have ha1 : ∀ x ∈ a, x.oneCell' = true := by rw [ha]; exact oneCell_bytes _
  obtain ⟨b, hb⟩ : ∃ a, a = seed.map u8v := ⟨_, rfl⟩
  have hbl : b.length = 32 := by rw [hb]; rw [List.length_map, hs]
  have hb1 : ∀ x ∈ b, x.oneCell' = true := by rw [hb]; exact oneCell_bytes _
  obtain ⟨c, hc⟩ : ∃ a, a = capV A B pad := ⟨_, rfl⟩
  have hcl : c.length = 34 := by rw [hc]; exact capV_length _ _ hp
  have hc1 : ∀ x ∈ c, x.oneCell' = true := by rw [hc]; exact oneCell_cap _ _ _
  obtain ⟨d, hd⟩ : ∃ a, a = capV A1 B1 p1 := ⟨_, rfl⟩
  have hdl : d.length = 34 := by rw [hd]; exact capV_length _ _ hp1
  have hd1 : ∀ x ∈ d, x.oneCell' = true := by rw [hd]; exact oneCell_cap _ _ _
  obtain ⟨f, hf⟩ : ∃ a, a = o.map u8v := ⟨_, rfl⟩
  have hfl : f.length = 32 := by rw [hf]; rw [List.length_map, ho]
  have hf1 : ∀ x ∈ f, x.oneCell' = true := by rw [hf]; exact oneCell_bytes _
  rw [← ha] at L1 L2 ⊢
  rw [← hb] at L1 L2 ⊢
  rw [← hc] at O1 O2 K1 K2 ⊢
  rw [← hd] at L1 L2 EA
  rw [← hf] at O1 O2 EK
  clear ha hb hc hd hf hp hp1 ho hk hs
  replace L1 := Lib.hid L1
  replace L2 := Lib.hid L2
  replace O1 := Lib.hid O1
  replace O2 := Lib.hid O2
  replace K1 := Lib.hid K1
  replace K2 := Lib.hid K2
  obtain ⟨b1, hb1⟩ : ∃ x, x = w.alloc (.cells a.toArray 23) := ⟨_, rfl⟩
  obtain ⟨b2, hb2⟩ : ∃ x, x = b1.alloc (.cells b.toArray 23) := ⟨_, rfl⟩
  obtain ⟨b3, hb3⟩ : ∃ x, x = b2.alloc (.cells c.toArray 25) := ⟨_, rfl⟩
  have s1 : b1.heap.size = w.heap.size + 1 := by rw [hb1]; simp
  have s2 : b2.heap.size = w.heap.size + 1 + 1 := by rw [hb2]; simp [s1]
  have r1 : RowIs b3 (w.heap.size) 23 a := by
    rw [hb3]; refine RowIs.alloc ?_ _
    rw [hb2]; refine RowIs.alloc ?_ _
    rw [hb1]; exact RowIs.new w a _
  have r2 : RowIs b3 (w.heap.size + 1) 23 b := by
    rw [hb3]; refine RowIs.alloc ?_ _
    rw [hb2, ← s1]; exact RowIs.new b1 b _
  have r3 : RowIs b3 (w.heap.size + 1 + 1) 25 c := by
    rw [hb3, ← s2]; exact RowIs.new b2 c _
  have hB0 : Below w.heap.size w b3 := by rw [hb3, hb2, hb1]; exact (((Below.refl _ w).alloc (by first | exact Nat.le_refl _ | (simp; omega) | simp) _).alloc (by first | exact Nat.le_refl _ | (simp; omega) | simp) _).alloc (by first | exact Nat.le_refl _ | (simp; omega) | simp) _
  have F0 := Lib.hid (And.intro hB0 (And.intro (hl.below hB0 hl.numLt hl.startLt) (And.intro r1 (And.intro r2 r3))))
  clear hB0 hl r1 r2 r3 s1 s2
  go_enter Tryz.func3, Tryz.ntmps3
  go_upto_region 1 with fail
  rw [← hb1, ← hb2, ← hb3]
  clear hb1 hb2 hb3
  go_wp2_with fail
  refine (sane_ok b3 F0.out.2.1).mono ?_
  rintro e v1 ⟨rfl, hB1⟩
  have F2 := Lib.hid (And.intro (F0.out.1.trans (hB1.mono F0.out.1.size)) (And.intro (F0.out.2.1.below hB1 (Nat.lt_of_lt_of_le F0.out.2.1.numLt (Nat.le_refl _)) (Nat.lt_of_lt_of_le F0.out.2.1.startLt (Nat.le_refl _))) (And.intro (F0.out.2.2.1.below hB1 F0.out.2.2.1.lt) (And.intro (F0.out.2.2.2.1.below hB1 F0.out.2.2.2.1.lt) (F0.out.2.2.2.2.below hB1 F0.out.2.2.2.2.lt)))))
  clear hB1
  have L3 := F2.out.2.2.1.loads (P := Tryz.prog) 32 hal
  have L4 := F2.out.2.2.2.1.loads (P := Tryz.prog) 32 hbl
  go_wp2_with fail
  refine (L1.out v1 F2.out.2.1).mono ?_
  rintro e v5 ⟨rfl, hB5⟩
  have F6 := Lib.hid (And.intro (F2.out.1.trans (hB5.mono F2.out.1.size)) (And.intro (F2.out.2.1.below hB5 (Nat.lt_of_lt_of_le F2.out.2.1.numLt (Nat.le_refl _)) (Nat.lt_of_lt_of_le F2.out.2.1.startLt (Nat.le_refl _))) (And.intro (F2.out.2.2.1.below hB5 F2.out.2.2.1.lt) (And.intro (F2.out.2.2.2.1.below hB5 F2.out.2.2.2.1.lt) (F2.out.2.2.2.2.below hB5 F2.out.2.2.2.2.lt)))))
  clear hB5
  obtain ⟨v7, S7, hR7, hB7⟩ := fresh_store (P := Tryz.prog) v5 25 #[.int .i64 0, .int .i64 0, .int .u8 0, .int .u8 0, .int .u8 0, .int .u8 0, .int .u8 0, .int .u8 0, .int .u8 0, .int .u8 0, .int .u8 0, .int .u8 0, .int .u8 0, .int .u8 0, .int .u8 0, .int .u8 0, .int .u8 0, .int .u8 0, .int .u8 0, .int .u8 0, .int .u8 0, .int .u8 0, .int .u8 0, .int .u8 0, .int .u8 0, .int .u8 0, .int .u8 0, .int .u8 0, .int .u8 0, .int .u8 0, .int .u8 0, .int .u8 0, .int .u8 0, .int .u8 0] d (by rw [hdl]; rfl) hd1
  have F8 := Lib.hid (And.intro (F6.out.1.trans (hB7.mono F6.out.1.size)) (And.intro (F6.out.2.1.below hB7 (Nat.lt_of_lt_of_le F6.out.2.1.numLt (Nat.le_refl _)) (Nat.lt_of_lt_of_le F6.out.2.1.startLt (Nat.le_refl _))) (And.intro (F6.out.2.2.1.below hB7 F6.out.2.2.1.lt) (And.intro (F6.out.2.2.2.1.below hB7 F6.out.2.2.2.1.lt) (And.intro (F6.out.2.2.2.2.below hB7 F6.out.2.2.2.2.lt) hR7)))))
  clear hR7 hB7
  clear L3
  clear L4
  have L9 := F8.out.2.2.1.loads (P := Tryz.prog) 32 hal
  have L10 := F8.out.2.2.2.1.loads (P := Tryz.prog) 32 hbl
  go_wp2_with fail
  clear S7
  refine (L2.out v7).mono ?_
  rintro e v11 ⟨rfl, hB11⟩
  have F12 := Lib.hid (And.intro (F8.out.1.trans (hB11.mono F8.out.1.size)) (And.intro (F8.out.2.1.below hB11 (Nat.lt_of_lt_of_le F8.out.2.1.numLt (Nat.le_refl _)) (Nat.lt_of_lt_of_le F8.out.2.1.startLt (Nat.le_refl _))) (And.intro (F8.out.2.2.1.below hB11 F8.out.2.2.1.lt) (And.intro (F8.out.2.2.2.1.below hB11 F8.out.2.2.2.1.lt) (And.intro (F8.out.2.2.2.2.1.below hB11 F8.out.2.2.2.2.1.lt) (F8.out.2.2.2.2.2.below hB11 F8.out.2.2.2.2.2.lt))))))
  clear hB11
  obtain ⟨v13, S13, hR13, hB13⟩ := fresh_store (P := Tryz.prog) v11 25 #[.int .i64 0, .int .i64 0, .int .u8 0, .int .u8 0, .int .u8 0, .int .u8 0, .int .u8 0, .int .u8 0, .int .u8 0, .int .u8 0, .int .u8 0, .int .u8 0, .int .u8 0, .int .u8 0, .int .u8 0, .int .u8 0, .int .u8 0, .int .u8 0, .int .u8 0, .int .u8 0, .int .u8 0, .int .u8 0, .int .u8 0, .int .u8 0, .int .u8 0, .int .u8 0, .int .u8 0, .int .u8 0, .int .u8 0, .int .u8 0, .int .u8 0, .int .u8 0, .int .u8 0, .int .u8 0] d (by rw [hdl]; rfl) hd1
  have F14 := Lib.hid (And.intro (F12.out.1.trans (hB13.mono F12.out.1.size)) (And.intro (F12.out.2.1.below hB13 (Nat.lt_of_lt_of_le F12.out.2.1.numLt (Nat.le_refl _)) (Nat.lt_of_lt_of_le F12.out.2.1.startLt (Nat.le_refl _))) (And.intro (F12.out.2.2.1.below hB13 F12.out.2.2.1.lt) (And.intro (F12.out.2.2.2.1.below hB13 F12.out.2.2.2.1.lt) (And.intro (F12.out.2.2.2.2.1.below hB13 F12.out.2.2.2.2.1.lt) (And.intro (F12.out.2.2.2.2.2.below hB13 F12.out.2.2.2.2.2.lt) hR13))))))
  clear hR13 hB13
  clear L9
  clear L10
  have L15 := F14.out.2.2.2.2.1.loads (P := Tryz.prog) 34 hcl
  go_wp2_with fail
  clear S13
  refine (O1.out v13 F14.out.2.1).mono ?_
  rintro e v16 ⟨rfl, hB16⟩
  have F17 := Lib.hid (And.intro (F14.out.1.trans (hB16.mono F14.out.1.size)) (And.intro (F14.out.2.1.below hB16 (Nat.lt_of_lt_of_le F14.out.2.1.numLt (Nat.le_refl _)) (Nat.lt_of_lt_of_le F14.out.2.1.startLt (Nat.le_refl _))) (And.intro (F14.out.2.2.1.below hB16 F14.out.2.2.1.lt) (And.intro (F14.out.2.2.2.1.below hB16 F14.out.2.2.2.1.lt) (And.intro (F14.out.2.2.2.2.1.below hB16 F14.out.2.2.2.2.1.lt) (And.intro (F14.out.2.2.2.2.2.1.below hB16 F14.out.2.2.2.2.2.1.lt) (F14.out.2.2.2.2.2.2.below hB16 F14.out.2.2.2.2.2.2.lt)))))))
  clear hB16
  obtain ⟨v18, S18, hR18, hB18⟩ := fresh_store (P := Tryz.prog) v16 23 #[.int .u8 0, .int .u8 0, .int .u8 0, .int .u8 0, .int .u8 0, .int .u8 0, .int .u8 0, .int .u8 0, .int .u8 0, .int .u8 0, .int .u8 0, .int .u8 0, .int .u8 0, .int .u8 0, .int .u8 0, .int .u8 0, .int .u8 0, .int .u8 0, .int .u8 0, .int .u8 0, .int .u8 0, .int .u8 0, .int .u8 0, .int .u8 0, .int .u8 0, .int .u8 0, .int .u8 0, .int .u8 0, .int .u8 0, .int .u8 0, .int .u8 0, .int .u8 0] f (by rw [hfl]; rfl) hf1
  have F19 := Lib.hid (And.intro (F17.out.1.trans (hB18.mono F17.out.1.size)) (And.intro (F17.out.2.1.below hB18 (Nat.lt_of_lt_of_le F17.out.2.1.numLt (Nat.le_refl _)) (Nat.lt_of_lt_of_le F17.out.2.1.startLt (Nat.le_refl _))) (And.intro (F17.out.2.2.1.below hB18 F17.out.2.2.1.lt) (And.intro (F17.out.2.2.2.1.below hB18 F17.out.2.2.2.1.lt) (And.intro (F17.out.2.2.2.2.1.below hB18 F17.out.2.2.2.2.1.lt) (And.intro (F17.out.2.2.2.2.2.1.below hB18 F17.out.2.2.2.2.2.1.lt) (And.intro (F17.out.2.2.2.2.2.2.below hB18 F17.out.2.2.2.2.2.2.lt) hR18)))))))
  clear hR18 hB18
  clear L15
  have L20 := F19.out.2.2.2.2.1.loads (P := Tryz.prog) 34 hcl
  go_wp2_with fail
  clear S18
  refine (O2.out v18).mono ?_
  rintro e v21 ⟨rfl, hB21⟩
  have F22 := Lib.hid (And.intro (F19.out.1.trans (hB21.mono F19.out.1.size)) (And.intro (F19.out.2.1.below hB21 (Nat.lt_of_lt_of_le F19.out.2.1.numLt (Nat.le_refl _)) (Nat.lt_of_lt_of_le F19.out.2.1.startLt (Nat.le_refl _))) (And.intro (F19.out.2.2.1.below hB21 F19.out.2.2.1.lt) (And.intro (F19.out.2.2.2.1.below hB21 F19.out.2.2.2.1.lt) (And.intro (F19.out.2.2.2.2.1.below hB21 F19.out.2.2.2.2.1.lt) (And.intro (F19.out.2.2.2.2.2.1.below hB21 F19.out.2.2.2.2.2.1.lt) (And.intro (F19.out.2.2.2.2.2.2.1.below hB21 F19.out.2.2.2.2.2.2.1.lt) (F19.out.2.2.2.2.2.2.2.below hB21 F19.out.2.2.2.2.2.2.2.lt))))))))
  clear hB21
  clear L20
  obtain ⟨v23, S23, hR23, hB23⟩ := fresh_store (P := Tryz.prog) v21 23 #[.int .u8 0, .int .u8 0, .int .u8 0, .int .u8 0, .int .u8 0, .int .u8 0, .int .u8 0, .int .u8 0, .int .u8 0, .int .u8 0, .int .u8 0, .int .u8 0, .int .u8 0, .int .u8 0, .int .u8 0, .int .u8 0, .int .u8 0, .int .u8 0, .int .u8 0, .int .u8 0, .int .u8 0, .int .u8 0, .int .u8 0, .int .u8 0, .int .u8 0, .int .u8 0, .int .u8 0, .int .u8 0, .int .u8 0, .int .u8 0, .int .u8 0, .int .u8 0] f (by rw [hfl]; rfl) hf1
  have F24 := Lib.hid (And.intro (F22.out.1.trans (hB23.mono F22.out.1.size)) (And.intro (F22.out.2.1.below hB23 (Nat.lt_of_lt_of_le F22.out.2.1.numLt (Nat.le_refl _)) (Nat.lt_of_lt_of_le F22.out.2.1.startLt (Nat.le_refl _))) (And.intro (F22.out.2.2.1.below hB23 F22.out.2.2.1.lt) (And.intro (F22.out.2.2.2.1.below hB23 F22.out.2.2.2.1.lt) (And.intro (F22.out.2.2.2.2.1.below hB23 F22.out.2.2.2.2.1.lt) (And.intro (F22.out.2.2.2.2.2.1.below hB23 F22.out.2.2.2.2.2.1.lt) (And.intro (F22.out.2.2.2.2.2.2.1.below hB23 F22.out.2.2.2.2.2.2.1.lt) (And.intro (F22.out.2.2.2.2.2.2.2.below hB23 F22.out.2.2.2.2.2.2.2.lt) hR23))))))))
  clear hR23 hB23
  go_upto_region 7 with fail
  clear S23
  have qp : RowIs v23.drew (v5.heap.size) 25 d := F24.out.2.2.2.2.2.1
  have Lp := qp.loads (P := Tryz.prog) 34 hdl
  have qq : RowIs v23.drew (v11.heap.size) 25 d := F24.out.2.2.2.2.2.2.1
  have Lq := qq.loads (P := Tryz.prog) 34 hdl
  have qu : RowIs v23.drew (v16.heap.size) 23 f := F24.out.2.2.2.2.2.2.2.1
  have Lu := qu.loads (P := Tryz.prog) 32 hfl
  have qv : RowIs v23.drew (v21.heap.size) 23 f := F24.out.2.2.2.2.2.2.2.2
  have Lv := qv.loads (P := Tryz.prog) 32 hfl
  have qc : RowIs v23.drew (w.heap.size + 1 + 1) 25 c := F24.out.2.2.2.2.1
  have Lc := qc.loads (P := Tryz.prog) 34 hcl
  have qB := F24.out.1.trans ((drew_below v23).mono F24.out.1.size)
  go_region_with
    (first
      | (go_at_call 9
         refine (K1.out _).mono ?_
         rintro e wq ⟨rfl, hBq⟩
         have qc' := row_below (g := w.heap.size + 1 + 1) (t := 25) (cs := c) hBq (by assumption)
         have qB' : Below w.heap.size w wq := below_on (by assumption) hBq
         have Lc' := qc'.loads (P := Tryz.prog) 34 hcl
         clear hBq)
      | (go_at_call 10
         refine (K2.out _).mono ?_
         rintro e wq ⟨rfl, hBq⟩
         have qc' := row_below (g := w.heap.size + 1 + 1) (t := 25) (cs := c) hBq (by assumption)
         have qB' : Below w.heap.size w wq := below_on (by assumption) hBq
         have Lc' := qc'.loads (P := Tryz.prog) 34 hcl
         clear hBq))
  all_goals
    go_wp2_with fail
    go_ret
    exact ⟨rfl, qB'⟩
end Go.Proofs.YtejjincnghmbbaaGreatDoor
