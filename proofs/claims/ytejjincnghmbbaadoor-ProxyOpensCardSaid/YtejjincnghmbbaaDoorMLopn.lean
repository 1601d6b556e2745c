/- chartroomlaw11.ProxyOpens, walked. -/
import Derived.Test.YtejjincnghmbbaaDoorM24
namespace Go.Proofs.YtejjincnghmbbaaDoor
open Go.RowKit

set_option maxRecDepth 20000 in
set_option maxHeartbeats 4000000 in
theorem opens_walk (n : Int) (k seed : List UInt8) (hk : k.length = 32) (hs : seed.length = 32) (w : World) (hl : Laid w) :
    Calls Tryd.prog 4 #[.int .i64 n, .agg (k.map u8v).toArray, .agg (seed.map u8v).toArray] w fun e w' => e = .returned (.bool true) ∧ Below w.heap.size w w' := by
  have K1 := refKey_any n
  have hx0 := keyZ_pos n; have hx := keyZ_lt n
  generalize keyZ n = x at *
  have CB := base_E x hx
  have CL := lock_E x k seed hk hs
  have CO := open_E x k seed hk hx0 hx
  have CC := check_E x k seed
  have EK := run_eqlKey k k hk hk
  rw [beq_self_eq_true] at EK
  obtain ⟨a, ha⟩ : ∃ a, a = k.map u8v := ⟨_, rfl⟩
  have hal : a.length = 32 := by rw [ha]; rw [List.length_map, hk]
  have ha1 : ∀ x ∈ a, x.oneCell' = true := by rw [ha]; exact oneCell_bytes _
  obtain ⟨b, hb⟩ : ∃ a, a = seed.map u8v := ⟨_, rfl⟩
  have hbl : b.length = 32 := by rw [hb]; rw [List.length_map, hs]
  have hb1 : ∀ x ∈ b, x.oneCell' = true := by rw [hb]; exact oneCell_bytes _
  obtain ⟨c, hc⟩ : ∃ a, a = capE x k seed := ⟨_, rfl⟩
  have hcl : c.length = 34 := by rw [hc]; exact capE_length _ hk
  have hc1 : ∀ x ∈ c, x.oneCell' = true := by rw [hc]; exact capE_one _ _ _
  generalize Chart.E x = y at *
  rw [← ha] at CL CO EK ⊢
  rw [← hb] at CL ⊢
  rw [← hc] at CL CO CC
  replace K1 := Lib.hid K1; replace CB := Lib.hid CB; replace CL := Lib.hid CL; replace CO := Lib.hid CO; replace CC := Lib.hid CC
  clear ha hb hc hx0 hx
  obtain ⟨b1, hb1⟩ : ∃ x, x = w.alloc (.cells a.toArray 23) := ⟨_, rfl⟩
  obtain ⟨b2, hb2⟩ : ∃ x, x = b1.alloc (.cells b.toArray 23) := ⟨_, rfl⟩
  have s1 : b1.heap.size = w.heap.size + 1 := by rw [hb1]; simp
  have r1 : RowIs b2 (w.heap.size) 23 a := by
    rw [hb2]; refine RowIs.alloc ?_ _
    rw [hb1]; exact RowIs.new w a _
  have r2 : RowIs b2 (w.heap.size + 1) 23 b := by
    rw [hb2, ← s1]; exact RowIs.new b1 b _
  have hB0 : Below w.heap.size w b2 := by rw [hb2, hb1]; exact ((Below.refl _ w).alloc (by first | exact Nat.le_refl _ | (simp; omega) | simp) _).alloc (by first | exact Nat.le_refl _ | (simp; omega) | simp) _
  have F0 := Lib.hid (And.intro hB0 (And.intro (hl.below hB0 hl.numLt hl.startLt) (And.intro r1 r2)))
  clear hB0 hl r1 r2 s1
  go_enter Tryd.func4, Tryd.ntmps4
  go_upto_region 1 with fail
  rw [← hb1, ← hb2]
  clear hb1 hb2
  go_wp2_with fail
  refine (sane_ok b2 F0.out.2.1).mono ?_
  rintro e v1 ⟨rfl, hB1⟩
  have F2 := Lib.hid (And.intro (F0.out.1.trans (hB1.mono F0.out.1.size)) (And.intro (F0.out.2.1.below hB1 (Nat.lt_of_lt_of_le F0.out.2.1.numLt (Nat.le_refl _)) (Nat.lt_of_lt_of_le F0.out.2.1.startLt (Nat.le_refl _))) (And.intro (F0.out.2.2.1.below hB1 F0.out.2.2.1.lt) (F0.out.2.2.2.below hB1 F0.out.2.2.2.lt))))
  clear hB1
  go_wp2_with fail
  refine (K1.out v1).mono ?_
  rintro e v3 ⟨rfl, rfl⟩
  go_wp2_with fail
  refine (CB.out v1).mono ?_
  rintro e v4 ⟨rfl, hB4⟩
  have F5 := Lib.hid (And.intro (F2.out.1.trans (hB4.mono F2.out.1.size)) (And.intro (F2.out.2.1.below hB4 (Nat.lt_of_lt_of_le F2.out.2.1.numLt (Nat.le_refl _)) (Nat.lt_of_lt_of_le F2.out.2.1.startLt (Nat.le_refl _))) (And.intro (F2.out.2.2.1.below hB4 F2.out.2.2.1.lt) (F2.out.2.2.2.below hB4 F2.out.2.2.2.lt))))
  clear hB4
  have L6 := F5.out.2.2.1.loads (P := Tryd.prog) 32 hal
  have L7 := F5.out.2.2.2.loads (P := Tryd.prog) 32 hbl
  go_wp2_with fail
  refine (CL.out v4 F5.out.2.1).mono ?_
  rintro e v8 ⟨rfl, hB8⟩
  have F9 := Lib.hid (And.intro (F5.out.1.trans (hB8.mono F5.out.1.size)) (And.intro (F5.out.2.1.below hB8 (Nat.lt_of_lt_of_le F5.out.2.1.numLt (Nat.le_refl _)) (Nat.lt_of_lt_of_le F5.out.2.1.startLt (Nat.le_refl _))) (And.intro (F5.out.2.2.1.below hB8 F5.out.2.2.1.lt) (F5.out.2.2.2.below hB8 F5.out.2.2.2.lt))))
  clear hB8
  obtain ⟨v10, S10, hR10, hB10⟩ := fresh_store (P := Tryd.prog) v8 25 #[.int .i64 0, .int .i64 0, .int .u8 0, .int .u8 0, .int .u8 0, .int .u8 0, .int .u8 0, .int .u8 0, .int .u8 0, .int .u8 0, .int .u8 0, .int .u8 0, .int .u8 0, .int .u8 0, .int .u8 0, .int .u8 0, .int .u8 0, .int .u8 0, .int .u8 0, .int .u8 0, .int .u8 0, .int .u8 0, .int .u8 0, .int .u8 0, .int .u8 0, .int .u8 0, .int .u8 0, .int .u8 0, .int .u8 0, .int .u8 0, .int .u8 0, .int .u8 0, .int .u8 0, .int .u8 0] c (by rw [hcl]; rfl) hc1
  have F11 := Lib.hid (And.intro (F9.out.1.trans (hB10.mono F9.out.1.size)) (And.intro (F9.out.2.1.below hB10 (Nat.lt_of_lt_of_le F9.out.2.1.numLt (Nat.le_refl _)) (Nat.lt_of_lt_of_le F9.out.2.1.startLt (Nat.le_refl _))) (And.intro (F9.out.2.2.1.below hB10 F9.out.2.2.1.lt) (And.intro (F9.out.2.2.2.below hB10 F9.out.2.2.2.lt) hR10))))
  clear hR10 hB10
  clear L6
  clear L7
  have L12 := F11.out.2.2.2.2.loads (P := Tryd.prog) 34 hcl
  go_wp2_with fail
  clear S10
  refine (CO.out v10 F11.out.2.1).mono ?_
  rintro e v13 ⟨rfl, hB13⟩
  have F14 := Lib.hid (And.intro (F11.out.1.trans (hB13.mono F11.out.1.size)) (And.intro (F11.out.2.1.below hB13 (Nat.lt_of_lt_of_le F11.out.2.1.numLt (Nat.le_refl _)) (Nat.lt_of_lt_of_le F11.out.2.1.startLt (Nat.le_refl _))) (And.intro (F11.out.2.2.1.below hB13 F11.out.2.2.1.lt) (And.intro (F11.out.2.2.2.1.below hB13 F11.out.2.2.2.1.lt) (F11.out.2.2.2.2.below hB13 F11.out.2.2.2.2.lt)))))
  clear hB13
  obtain ⟨v15, S15, hR15, hB15⟩ := fresh_store (P := Tryd.prog) v13 23 #[.int .u8 0, .int .u8 0, .int .u8 0, .int .u8 0, .int .u8 0, .int .u8 0, .int .u8 0, .int .u8 0, .int .u8 0, .int .u8 0, .int .u8 0, .int .u8 0, .int .u8 0, .int .u8 0, .int .u8 0, .int .u8 0, .int .u8 0, .int .u8 0, .int .u8 0, .int .u8 0, .int .u8 0, .int .u8 0, .int .u8 0, .int .u8 0, .int .u8 0, .int .u8 0, .int .u8 0, .int .u8 0, .int .u8 0, .int .u8 0, .int .u8 0, .int .u8 0] a (by rw [hal]; rfl) ha1
  have F16 := Lib.hid (And.intro (F14.out.1.trans (hB15.mono F14.out.1.size)) (And.intro (F14.out.2.1.below hB15 (Nat.lt_of_lt_of_le F14.out.2.1.numLt (Nat.le_refl _)) (Nat.lt_of_lt_of_le F14.out.2.1.startLt (Nat.le_refl _))) (And.intro (F14.out.2.2.1.below hB15 F14.out.2.2.1.lt) (And.intro (F14.out.2.2.2.1.below hB15 F14.out.2.2.2.1.lt) (And.intro (F14.out.2.2.2.2.below hB15 F14.out.2.2.2.2.lt) hR15)))))
  clear hR15 hB15
  clear L12
  have L17 := F16.out.2.2.2.2.2.loads (P := Tryd.prog) 32 hal
  have L18 := F16.out.2.2.1.loads (P := Tryd.prog) 32 hal
  have L19 := F16.out.2.2.2.2.1.loads (P := Tryd.prog) 34 hcl
  go_wp2_with fail
  clear S15
  refine (CC.out v15).mono ?_
  rintro e v20 ⟨rfl, hB20⟩
  have F21 := Lib.hid (And.intro (F16.out.1.trans (hB20.mono F16.out.1.size)) (And.intro (F16.out.2.1.below hB20 (Nat.lt_of_lt_of_le F16.out.2.1.numLt (Nat.le_refl _)) (Nat.lt_of_lt_of_le F16.out.2.1.startLt (Nat.le_refl _))) (And.intro (F16.out.2.2.1.below hB20 F16.out.2.2.1.lt) (And.intro (F16.out.2.2.2.1.below hB20 F16.out.2.2.2.1.lt) (And.intro (F16.out.2.2.2.2.1.below hB20 F16.out.2.2.2.2.1.lt) (F16.out.2.2.2.2.2.below hB20 F16.out.2.2.2.2.2.lt))))))
  clear hB20
  clear L17
  clear L18
  clear L19
  go_wp2_with fail
  go_ret
  exact ⟨rfl, F21.out.1⟩
end Go.Proofs.YtejjincnghmbbaaDoor
