/- proxy.Open. -/
import Derived.Test.YtejjincnghmbbaaGreatDoorM20
import Derived.Test.YtejjincnghmbbaaGreatDoorM21
namespace Go.Proofs.YtejjincnghmbbaaGreatDoor
open Go.RowKit

/-- A region that ends in no other way than the plain one: for the posts of a function that defers, where a panic's post looks at the slots. -/
def Never : Exit → Act → World → Prop := fun _ _ _ => False
theorem wp_only {P : Program} {c : Code} {K : Act → World → Prop} {Q' : Exit → Act → World → Prop} {a : Act} {w : World} (h : c.wp P (Exit.then K Never) a w) : c.wp P (Exit.then K Q') a w :=
  wp_mono h (fun e a w hq => by
    cases e with
    | normal => exact hq
    | _ => exact False.elim hq)

theorem Exit.then_normal {K : Act → World → Prop} {Q : Exit → Act → World → Prop} {a : Act} {w : World} (h : K a w) : Exit.then K Q .normal a w := h

def zeroKey : List Value := List.replicate 32 (u8v 0)
theorem cap_pad {a b : Int} {pad : List UInt8} {w : World} {g : Nat} {t : TypeId} (h : RowIs w g t (capV a b pad)) (hp : pad.length = 32) : rowRead Tryz.prog w g 2 32 = .ok (pad.map u8v).toArray w :=
  cells_read (fun j v hv => by
    rw [h.cell]
    have : 2 + j = (j + 1) + 1 := by omega
    rw [this]
    exact hv) 32 (by rw [List.length_map, hp])

set_option maxRecDepth 20000 in
set_option maxHeartbeats 8000000 in
theorem open_ok (x a b : Nat) (pad : List UInt8) (hp : pad.length = 32) (hx0 : 0 < x) (hx : x < Chart.Q) (ha : Grp a) (hb : Grp b) (w : World) (hl : Laid w) :
    Calls Tryz.prog 7 #[.int .i64 x, .agg (capV a b pad).toArray] w fun e w' =>
      e = .returned (.tuple #[.agg (bytesV (Chart.comb pad (Chart.found x a b))).toArray, .int .i64 0]) ∧ Below w.heap.size w w' := by
  have hmf : ∀ (fn : Fn) (first cap : Array Value) (w : World), (Instr.makeFunc fn first cap).run Tryz.prog w = .ok (.func fn first cap) w := fun _ _ _ _ => rfl
  have hQ := Q_eq
  have C1 := Lib.hid (isPrivate_ok (x : Int) (by omega) (by omega))
  have C2 := Lib.hid (pcheck_ok a b pad ha hb)
  have C3 := Lib.hid (open2_any x a hx0 hx ha)
  have C4 := Lib.hid (open3_any (a ^ Chart.finv x % PP) b (ha.pow _) hb)
  have hm : Chart.found x a b < 2 ^ 62 := Nat.lt_of_lt_of_le (Nat.mod_lt _ Chart.P_pos) (by decide)
  have C5 := Lib.hid (combine_any pad hp (Chart.found x a b) hm)
  obtain ⟨m, hm'⟩ : ∃ m, m = Chart.found x a b := ⟨_, rfl⟩
  have hm2 : b * ((a ^ Chart.finv x % PP) ^ (Chart.Q - 1) % PP) % PP = m := hm'.symm
  rw [hm2] at C4
  rw [← hm'] at C5 ⊢
  obtain ⟨z, hz⟩ : ∃ z, z = a ^ Chart.finv x % PP := ⟨_, rfl⟩
  rw [← hz] at C3 C4
  obtain ⟨o, ho⟩ : ∃ o, o = bytesV (Chart.comb pad m) := ⟨_, rfl⟩
  have hol : o.length = 32 := by rw [ho, List.length_map, Chart.comb_length hp]
  have ho1 : ∀ v ∈ o, v.oneCell' = true := by rw [ho]; exact oneCell_bytes _
  rw [← ho] at C5 ⊢
  obtain ⟨c, hc⟩ : ∃ c, c = capV (a : Int) (b : Int) pad := ⟨_, rfl⟩
  have hcl : c.length = 34 := by rw [hc]; exact capV_length _ _ hp
  rw [← hc] at C2 ⊢
  obtain ⟨w1, hw1⟩ : ∃ y, y = w.alloc (.cells #[.int .i64 x] 3) := ⟨_, rfl⟩
  obtain ⟨w2, hw2⟩ : ∃ x, x = w1.alloc (.cells c.toArray 25) := ⟨_, rfl⟩
  obtain ⟨w3, hw3⟩ : ∃ x, x = w2.alloc (.cells #[.int .u8 0, .int .u8 0, .int .u8 0, .int .u8 0, .int .u8 0, .int .u8 0, .int .u8 0, .int .u8 0, .int .u8 0, .int .u8 0, .int .u8 0, .int .u8 0, .int .u8 0, .int .u8 0, .int .u8 0, .int .u8 0, .int .u8 0, .int .u8 0, .int .u8 0, .int .u8 0, .int .u8 0, .int .u8 0, .int .u8 0, .int .u8 0, .int .u8 0, .int .u8 0, .int .u8 0, .int .u8 0, .int .u8 0, .int .u8 0, .int .u8 0, .int .u8 0] 23) := ⟨_, rfl⟩
  obtain ⟨w4, hw4⟩ : ∃ x, x = w3.alloc (.cells #[.int .i64 0] 27) := ⟨_, rfl⟩
  have s1 : w1.heap.size = w.heap.size + 1 := by rw [hw1]; simp
  have s2 : w2.heap.size = w.heap.size + 1 + 1 := by rw [hw2]; simp [s1]
  have s3 : w3.heap.size = w.heap.size + 1 + 1 + 1 := by rw [hw3]; simp [s2]
  have r1 : RowIs w4 w.heap.size 3 [.int .i64 x] := by
    rw [hw4, hw3, hw2]
    refine RowIs.alloc (RowIs.alloc (RowIs.alloc ?_ _) _) _
    rw [hw1]; exact RowIs.new w [.int .i64 x] _
  have r2 : RowIs w4 (w.heap.size + 1) 25 c := by
    rw [hw4, hw3]
    refine RowIs.alloc (RowIs.alloc ?_ _) _
    rw [hw2, ← s1]; exact RowIs.new w1 c _
  have r3 : RowIs w4 (w.heap.size + 1 + 1) 23 zeroKey := by
    rw [hw4]
    refine RowIs.alloc ?_ _
    rw [hw3, ← s2]; exact RowIs.new w2 (List.replicate 32 (u8v 0)) _
  have r4 : RowIs w4 (w.heap.size + 1 + 1 + 1) 27 [.int .i64 0] := by
    rw [hw4, ← s3]; exact RowIs.new w3 [.int .i64 0] _
  have hB : Below w.heap.size w w4 := by
    rw [hw4, hw3, hw2, hw1]
    exact ((((Below.refl _ w).alloc (Nat.le_refl _) _).alloc (by simp) _).alloc (by simp; omega) _).alloc (by simp; omega) _
  have E1 := r2.loads (P := Tryz.prog) 34 hcl
  have c1 := (r1.cell 0).trans (show _ = some (Value.int .i64 (x : Int)) from rfl)
  have HH := Lib.hid (And.intro r1 (And.intro r2 (And.intro r3 (And.intro r4 (And.intro hB (And.intro hc (And.intro hl ho)))))))
  clear r1 r2 r3 r4 hB hc hm hm' hm2 hz ho s1 s2 s3 hQ hx0 hx ha hb hl
  go_enter_defers Tryz.func7, Tryz.ntmps7
  go_upto_region 1 with fail
  rw [← hw1, ← hw2, ← hw3, ← hw4]
  clear hw1 hw2 hw3 hw4
  go_wp2_with fail
  refine (C1.out _).mono ?_
  rintro e w5 ⟨rfl, rfl⟩
  go_wp2_with fail
  refine (demand_ok _ _).mono ?_
  rintro e w5 ⟨rfl, rfl⟩
  go_wp2_with fail
  refine (C2.out _).mono ?_
  rintro e w5 ⟨rfl, hB5⟩
  go_wp2_with fail
  refine (demand_ok _ _).mono ?_
  rintro e w6 ⟨rfl, rfl⟩
  have H5 := Lib.hid (And.intro (HH.out.1.below hB5 HH.out.1.lt) (And.intro (HH.out.2.1.below hB5 HH.out.2.1.lt) (And.intro (HH.out.2.2.1.below hB5 HH.out.2.2.1.lt) (And.intro (HH.out.2.2.2.1.below hB5 HH.out.2.2.2.1.lt) (HH.out.2.2.2.2.1.trans (hB5.mono HH.out.2.2.2.2.1.size))))))
  clear hB5 E1 c1
  go_upto_region 5 with fail
  obtain ⟨w6, hw6⟩ : ∃ y, y = w5.alloc (.cells #[.func (.func 33) #[] #[.pointer (some ⟨w.heap.size + 1, 0, none⟩), .pointer (some ⟨w.heap.size, 0, none⟩)], .func (.func 35) #[] #[.pointer (some ⟨w.heap.size + 1, 0, none⟩)]] 46) := ⟨_, rfl⟩
  rw [← hw6]
  have hB6 : Below w5.heap.size w5 w6 := by rw [hw6]; exact (Below.refl _ w5).alloc (Nat.le_refl _) _
  have hD6 : RowIs w6 w5.heap.size 46 [.func (.func 33) #[] #[.pointer (some ⟨w.heap.size + 1, 0, none⟩), .pointer (some ⟨w.heap.size, 0, none⟩)], .func (.func 35) #[] #[.pointer (some ⟨w.heap.size + 1, 0, none⟩)]] := by rw [hw6]; exact RowIs.new w5 [_, _] _
  have hP6 : RowIs w6 w.heap.size 3 [.int .i64 x] := H5.out.1.below hB6 H5.out.1.lt
  have hC6 : RowIs w6 (w.heap.size + 1) 25 (capV (a : Int) (b : Int) pad) := by rw [← HH.out.2.2.2.2.2.1]; exact H5.out.2.1.below hB6 H5.out.2.1.lt
  have hK6 := H5.out.2.2.1.below hB6 H5.out.2.2.1.lt
  have hE6 := H5.out.2.2.2.1.below hB6 H5.out.2.2.2.1.lt
  have hb6 := H5.out.2.2.2.2.trans (hB6.mono H5.out.2.2.2.2.size)
  have E6 := cap_pad (w := w6.drew) (show RowIs w6.drew _ _ _ from hC6) hp
  have d60 := hD6.cell 0
  have d61 := hD6.cell 1
  simp only [List.getElem?_cons_zero, List.getElem?_cons_succ] at d60 d61
  have H6 := Lib.hid (And.intro hD6 (And.intro hP6 (And.intro hC6 (And.intro hK6 (And.intro hE6 (And.intro hb6 hB6.size))))))
  clear hD6 hP6 hC6 hK6 hE6 hb6 hB6 hw6
  refine wp_only ?_
  go_region_with
    (first
      | (go_at_call 33
         refine (C3.out w.heap.size (w.heap.size + 1) _ _ _ w6.drew H6.out.2.1 H6.out.2.2.1).mono ?_
         rintro e w7 ⟨rfl, hB7⟩
         have hB7 : Below w6.heap.size w6 w7 := (drew_below w6).trans hB7
         have E7 := cap_pad (H6.out.2.2.1.below hB7 H6.out.2.2.1.lt) hp
         have d71 := ((H6.out.1.below hB7 H6.out.1.lt).cell 1)
         simp only [List.getElem?_cons_zero, List.getElem?_cons_succ] at d71
         have H7 := Lib.hid hB7
         clear hB7)
      | (go_at_call 35
         refine (C4.out (w.heap.size + 1) _ _ _ w7 (H6.out.2.2.1.below H7.out H6.out.2.2.1.lt)).mono ?_
         rintro e w8 ⟨rfl, hB8⟩
         have hB8 : Below w6.heap.size w6 w8 := H7.out.trans (hB8.mono H7.out.size)
         have E8 := cap_pad (H6.out.2.2.1.below hB8 H6.out.2.2.1.lt) hp
         have H8 := Lib.hid hB8
         clear hB8)
      | (go_at_call 23
         refine (C5.out w8 (HH.out.2.2.2.2.2.2.1.below (H6.out.2.2.2.2.2.1.trans (H8.out.mono H6.out.2.2.2.2.2.1.size)) HH.out.2.2.2.2.2.2.1.numLt HH.out.2.2.2.2.2.2.1.startLt)).mono ?_
         rintro e w9 ⟨rfl, hB9⟩
         have hB9 : Below w6.heap.size w6 w9 := H8.out.trans (hB9.mono H8.out.size)
         have hK9 := H6.out.2.2.2.1.below hB9 H6.out.2.2.2.1.lt
         have hE9 := H6.out.2.2.2.2.1.below hB9 H6.out.2.2.2.2.1.lt
         have E9 := hK9.stores (P := Tryz.prog) o (by rw [hol]; rfl) ho1
         obtain ⟨wt, hwt⟩ : ∃ y, y = w9.setRow (w.heap.size + 1 + 1) o.toArray := ⟨_, rfl⟩
         rw [← hwt] at E9
         have hKt : RowIs wt (w.heap.size + 1 + 1) 23 o := by rw [hwt]; exact hK9.setRow _
         have hEt : RowIs wt (w.heap.size + 1 + 1 + 1) 27 [.int .i64 0] := by rw [hwt]; exact (heap_setRow_other _ _ _ _ (by omega)).trans hE9
         have hbt : Below w.heap.size w wt := by rw [hwt]; exact below_setRow (H6.out.2.2.2.2.2.1.trans (hB9.mono H6.out.2.2.2.2.2.1.size)) (by omega) _
         have ct := (hEt.cell 0).trans (show _ = some (Value.int .i64 0) from rfl)
         have ft := hEt.frozen 0
         have Ht := Lib.hid (And.intro hKt (And.intro hEt hbt))
         clear hB9 hK9 hE9 hKt hEt hbt hwt))
  all_goals
    refine Exit.then_normal ?_
    go_wp2_with fail
    refine leaves_cons (f := 30) (args := #[.pointer (some ⟨w.heap.size + 1 + 1 + 1, 0, none⟩)]) (by simp) (by simp [go_sem]) ?_
    refine (open1_idle (w.heap.size + 1 + 1 + 1) _).mono ?_
    rintro e u' w10 ⟨rfl, rfl, rfl⟩
    have h2 := Ht.out.1.apart (Apart.setCell wt (w.heap.size + 1 + 1 + 1) 0 (.int .i64 0)) (by omega)
    refine ⟨.tuple #[.agg o.toArray, .int .i64 0], results_row_cell (d := .array 32 5) rfl _ _ (w.heap.size + 1 + 1) _ o.toArray (0, 0) rfl h2 (by kernel_rfl) rfl (by rw [List.size_toArray, hol]; kernel_rfl) (w.heap.size + 1 + 1 + 1) 0 (.int .i64 0) rfl (isAgg_int .i64 (by kernel_rfl)) ((Ht.out.2.1.set 0 _).cell 0), by rw [HH.out.2.2.2.2.2.2.2], below_setCell Ht.out.2.2 (by omega) _ _⟩
end Go.Proofs.YtejjincnghmbbaaGreatDoor

/- proxy.Lock. -/
namespace Go.Proofs.YtejjincnghmbbaaGreatDoor
open Go.RowKit

set_option maxRecDepth 20000 in
set_option maxHeartbeats 16000000 in
theorem lock_ok (y : Nat) (k seed : List UInt8) (hk : k.length = 32) (hs : seed.length = 32) (hy : Grp y) (w : World) (hl : Laid w) :
    Calls Tryz.prog 5 #[.int .i64 y, .agg (k.map u8v).toArray, .agg (seed.map u8v).toArray] w fun e w' =>
      e = .returned (.tuple #[.agg (capV ((y ^ lockR seed % PP : Nat) : Int) ((Chart.E (lockS seed + lockR seed) : Nat) : Int) (Chart.comb k (Chart.E (lockS seed)))).toArray, .int .i64 0]) ∧ Below w.heap.size w w' := by
  have hmf : ∀ (fn : Fn) (first cap : Array Value) (w : World), (Instr.makeFunc fn first cap).run Tryz.prog w = .ok (.func fn first cap) w := fun _ _ _ _ => rfl
  have C1 := Lib.hid (gcheck_ok y hy)
  have C2 := Lib.hid (dscalar_any seed hs lock_ (by decide))
  have C3 := Lib.hid (gbase_ok (lockR seed) (dscalar_lt _ _))
  have C4 := Lib.hid (lock2_any y (lockR seed) hy (dscalar_lt _ _))
  have C5 := Lib.hid (lock3_any seed hs (Chart.E (lockR seed)) (Chart.E_elem _))
  have C6 := Lib.hid (lock3_any seed hs 1 grp_one)
  have hE1 : Chart.E (lockS seed) * 1 % PP = Chart.E (lockS seed) := by rw [Nat.mul_one]; exact Nat.mod_eq_of_lt (Chart.E_lt _)
  have hE2 : Chart.E (lockS seed) * Chart.E (lockR seed) % PP = Chart.E (lockS seed + lockR seed) := Chart.E_add _ _
  rw [hE1] at C6
  rw [hE2] at C5
  have hm : Chart.E (lockS seed) < 2 ^ 62 := Nat.lt_of_lt_of_le (Chart.E_lt _) (by decide)
  have C7 := Lib.hid (combine_any k hk (Chart.E (lockS seed)) hm)
  obtain ⟨r, hr⟩ : ∃ r, r = lockR seed := ⟨_, rfl⟩
  have hr' : dscalar seed lock_ = r := hr.symm
  rw [hr'] at C2
  rw [← hr] at C3 C4
  obtain ⟨p, hp⟩ : ∃ p, p = Chart.E (lockR seed) := ⟨_, rfl⟩
  have hp' : 4 ^ r % PP = p := by rw [hr, hp]; rfl
  rw [hp'] at C3
  rw [← hp] at C5
  obtain ⟨A, hA⟩ : ∃ A, A = y ^ lockR seed % PP := ⟨_, rfl⟩
  have hA' : y ^ r % PP = A := by rw [hr, hA]
  rw [hA'] at C4
  rw [← hA]
  obtain ⟨Bb, hBb⟩ : ∃ B, B = Chart.E (lockS seed + lockR seed) := ⟨_, rfl⟩
  rw [← hBb] at C5 ⊢
  obtain ⟨m, hm'⟩ : ∃ m, m = Chart.E (lockS seed) := ⟨_, rfl⟩
  rw [← hm'] at C6 C7 ⊢
  obtain ⟨o, ho⟩ : ∃ o, o = Chart.comb k m := ⟨_, rfl⟩
  have hol : o.length = 32 := by rw [ho]; exact Chart.comb_length hk m
  rw [← ho] at C7 ⊢
  obtain ⟨oo, hoo⟩ : ∃ b, b = bytesV o := ⟨_, rfl⟩
  have hool : oo.length = 32 := by rw [hoo, List.length_map, hol]
  have hcl : (capL (A : Int) (Bb : Int) oo).length = 34 := by simp [capL, hool]
  have hc1 : ∀ v ∈ capL (A : Int) (Bb : Int) oo, v.oneCell' = true := by rw [hoo, capL_eq]; exact oneCell_cap _ _ _
  rw [← hoo] at C7
  obtain ⟨a, ha⟩ : ∃ d, d = k.map u8v := ⟨_, rfl⟩
  obtain ⟨b, hb⟩ : ∃ d, d = seed.map u8v := ⟨_, rfl⟩
  have hal : a.length = 32 := by rw [ha, List.length_map, hk]
  have hbl : b.length = 32 := by rw [hb, List.length_map, hs]
  rw [← ha] at C7 ⊢
  rw [← hb] at C2 C5 C6 ⊢
  obtain ⟨w1, hw1⟩ : ∃ x, x = w.alloc (.cells #[.int .i64 y] 3) := ⟨_, rfl⟩
  obtain ⟨w2, hw2⟩ : ∃ x, x = w1.alloc (.cells a.toArray 23) := ⟨_, rfl⟩
  obtain ⟨w3, hw3⟩ : ∃ x, x = w2.alloc (.cells b.toArray 23) := ⟨_, rfl⟩
  obtain ⟨w4, hw4⟩ : ∃ x, x = w3.alloc (.cells #[.int .i64 0, .int .i64 0, .int .u8 0, .int .u8 0, .int .u8 0, .int .u8 0, .int .u8 0, .int .u8 0, .int .u8 0, .int .u8 0, .int .u8 0, .int .u8 0, .int .u8 0, .int .u8 0, .int .u8 0, .int .u8 0, .int .u8 0, .int .u8 0, .int .u8 0, .int .u8 0, .int .u8 0, .int .u8 0, .int .u8 0, .int .u8 0, .int .u8 0, .int .u8 0, .int .u8 0, .int .u8 0, .int .u8 0, .int .u8 0, .int .u8 0, .int .u8 0, .int .u8 0, .int .u8 0] 25) := ⟨_, rfl⟩
  obtain ⟨w5, hw5⟩ : ∃ x, x = w4.alloc (.cells #[.int .i64 0] 27) := ⟨_, rfl⟩
  have s1 : w1.heap.size = w.heap.size + 1 := by rw [hw1]; simp
  have s2 : w2.heap.size = w.heap.size + 1 + 1 := by rw [hw2]; simp [s1]
  have s3 : w3.heap.size = w.heap.size + 1 + 1 + 1 := by rw [hw3]; simp [s2]
  have s4 : w4.heap.size = w.heap.size + 1 + 1 + 1 + 1 := by rw [hw4]; simp [s3]
  have r1 : RowIs w5 w.heap.size 3 [.int .i64 (y : Int)] := by
    rw [hw5, hw4, hw3, hw2]
    refine RowIs.alloc (RowIs.alloc (RowIs.alloc (RowIs.alloc ?_ _) _) _) _
    rw [hw1]; exact RowIs.new w [.int .i64 y] _
  have r2 : RowIs w5 (w.heap.size + 1) 23 a := by
    rw [hw5, hw4, hw3]
    refine RowIs.alloc (RowIs.alloc (RowIs.alloc ?_ _) _) _
    rw [hw2, ← s1]; exact RowIs.new w1 a _
  have r3 : RowIs w5 (w.heap.size + 1 + 1) 23 b := by
    rw [hw5, hw4]
    refine RowIs.alloc (RowIs.alloc ?_ _) _
    rw [hw3, ← s2]; exact RowIs.new w2 b _
  have r4 : RowIs w5 (w.heap.size + 1 + 1 + 1) 25 zeroCap := by
    rw [hw5]
    refine RowIs.alloc ?_ _
    rw [hw4, ← s3, zeroCap_eq]; exact RowIs.new w3 _ _
  have r5 : RowIs w5 (w.heap.size + 1 + 1 + 1 + 1) 27 [.int .i64 0] := by
    rw [hw5, ← s4]; exact RowIs.new w4 [.int .i64 0] _
  have hB : Below w.heap.size w w5 := by
    rw [hw5, hw4, hw3, hw2, hw1]
    exact (((((Below.refl _ w).alloc (Nat.le_refl _) _).alloc (by simp) _).alloc (by simp; omega) _).alloc (by simp; omega) _).alloc (by simp; omega) _
  have c1 := (r1.cell 0).trans (show _ = some (Value.int .i64 (y : Int)) from rfl)
  have HH := Lib.hid (And.intro r1 (And.intro r2 (And.intro r3 (And.intro r4 (And.intro r5 (And.intro hB hl))))))
  have HE := Lib.hid (And.intro hA (And.intro hBb (And.intro hm' (And.intro ho (And.intro ha (And.intro hb hoo))))))
  clear r1 r2 r3 r4 r5 hB hl hA hA' hBb hm hm' ho ha hb hoo s1 s2 s3 s4 hy hr hr' hp hp' hE1 hE2
  go_enter_defers Tryz.func5, Tryz.ntmps5
  go_upto_region 1 with fail
  rw [← hw1, ← hw2, ← hw3, ← hw4, ← hw5]
  clear hw1 hw2 hw3 hw4 hw5
  go_wp2_with fail
  refine (C1.out _).mono ?_
  rintro e w6 ⟨rfl, hB6⟩
  have h5 := HH.out.2.2.2.2.1.below hB6 HH.out.2.2.2.2.1.lt
  have hA6 := hB6
  have c6 := (h5.cell 0).trans (show _ = some (Value.int .i64 0) from rfl)
  have f6 := h5.frozen 0
  have H6 := Lib.hid (And.intro hB6 h5)
  clear hB6 hA6 h5 c1
  go_upto_region 2 with fail
  obtain ⟨w7, hw7⟩ : ∃ x, x = w6.setCell ⟨w.heap.size + 1 + 1 + 1 + 1, 0, none⟩ (.int .i64 0) := ⟨_, rfl⟩
  rw [← hw7]
  have hap : Apart (w.heap.size + 1 + 1 + 1 + 1) w6 w7 := by rw [hw7]; exact Apart.setCell _ _ _ _
  have h1 := (HH.out.1.below H6.out.1 HH.out.1.lt).apart hap (by omega)
  have h2 := (HH.out.2.1.below H6.out.1 HH.out.2.1.lt).apart hap (by omega)
  have h3 := (HH.out.2.2.1.below H6.out.1 HH.out.2.2.1.lt).apart hap (by omega)
  have h4 := (HH.out.2.2.2.1.below H6.out.1 HH.out.2.2.2.1.lt).apart hap (by omega)
  have h5 : RowIs w7 (w.heap.size + 1 + 1 + 1 + 1) 27 [.int .i64 0] := by rw [hw7]; exact H6.out.2.set 0 _
  have hB := HH.out.2.2.2.2.2.1.trans (H6.out.1.mono HH.out.2.2.2.2.2.1.size)
  have hB7 : Below w.heap.size w w7 := hap.below hB (by omega) hB.size
  have c7 := (h5.cell 0).trans (show _ = some (Value.int .i64 0) from rfl)
  have E7 := h3.loads (P := Tryz.prog) 32 hbl
  have hl7 := HH.out.2.2.2.2.2.2.below hB7 HH.out.2.2.2.2.2.2.numLt HH.out.2.2.2.2.2.2.startLt
  have H7 := Lib.hid (And.intro h1 (And.intro h2 (And.intro h3 (And.intro h4 (And.intro h5 (And.intro hB7 hl7))))))
  clear h1 h2 h3 h4 h5 hB hB7 hl7 hap hw7 c6 f6
  go_wp2_with fail
  refine (C2.out w7 H7.out.2.2.2.2.2.2).mono ?_
  rintro e w8 ⟨rfl, hB8⟩
  have H8 := Lib.hid hB8
  clear hB8 E7 c7
  go_upto_region 7 with fail
  have hs8 := H8.out.size
  have hs7 := H7.out.2.2.2.2.1.lt
  have hs87 : w.heap.size + 1 + 1 + 1 + 1 < w8.heap.size := by omega
  obtain ⟨gr, hgr⟩ : ∃ g, g = w8.heap.size := ⟨_, rfl⟩
  rw [← hgr]
  obtain ⟨w9, hw9⟩ : ∃ x, x = w8.alloc (.cells #[.int .i64 (r : Int)] 3) := ⟨_, rfl⟩
  obtain ⟨w10, hw10⟩ : ∃ x, x = w9.alloc (.cells #[.func (.func 18) #[] #[.pointer (some ⟨w.heap.size, 0, none⟩), .pointer (some ⟨gr, 0, none⟩)], .func (.func 21) #[] #[.pointer (some ⟨w.heap.size + 1 + 1, 0, none⟩)]] 46) := ⟨_, rfl⟩
  rw [← hw9, ← hw10]
  have hB8 := H8.out
  have hBA : Below w8.heap.size w8 w10 := by rw [hw10, hw9]; exact ((Below.refl _ w8).alloc (Nat.le_refl _) _).alloc (by simp) _
  have q1 := (H7.out.1.below hB8 H7.out.1.lt).below hBA (by omega)
  have q2 := (H7.out.2.1.below hB8 H7.out.2.1.lt).below hBA (by omega)
  have q3 := (H7.out.2.2.1.below hB8 H7.out.2.2.1.lt).below hBA (by omega)
  have q4 := (H7.out.2.2.2.1.below hB8 H7.out.2.2.2.1.lt).below hBA (by omega)
  have q5 := (H7.out.2.2.2.2.1.below hB8 H7.out.2.2.2.2.1.lt).below hBA (by omega)
  have qr : RowIs w10 gr 3 [.int .i64 (r : Int)] := by
    rw [hw10]; refine RowIs.alloc ?_ _
    rw [hw9, hgr]; exact RowIs.new w8 [_] _
  have qd : RowIs w10 (gr + 1) 46 [.func (.func 18) #[] #[.pointer (some ⟨w.heap.size, 0, none⟩), .pointer (some ⟨gr, 0, none⟩)], .func (.func 21) #[] #[.pointer (some ⟨w.heap.size + 1 + 1, 0, none⟩)]] := by
    have s9 : w9.heap.size = gr + 1 := by rw [hw9, hgr]; simp
    rw [hw10, ← s9]; exact RowIs.new w9 [_, _] _
  have qB := H7.out.2.2.2.2.2.1.trans ((hB8.mono H7.out.2.2.2.2.2.1.size).trans (hBA.mono (by omega)))
  have ql := HH.out.2.2.2.2.2.2.below qB HH.out.2.2.2.2.2.2.numLt HH.out.2.2.2.2.2.2.startLt
  have dr := qr.cell 0
  have d1 := qd.cell 1
  simp only [List.getElem?_cons_zero, List.getElem?_cons_succ] at dr d1
  have HQ := Lib.hid (And.intro q1 (And.intro q2 (And.intro q3 (And.intro q4 (And.intro q5 (And.intro qr (And.intro qd (And.intro qB ql))))))))
  clear hs8 hs7 hs87 hgr hw9 hw10 hB8 hBA q1 q2 q3 q4 q5 qr qd qB ql H7 H8 HH
  go_cut [10] from 10 to 30 (fun v wr => v = .int .i64 (Bb : Int) ∧ Below w10.heap.size w10 wr)
  case first =>
    refine wp_only ?_
    go_region_with
      (first
        | (go_at_call 11
           refine (C3.out w10.drew).mono ?_
           rintro e wa ⟨rfl, hBa⟩
           have hBa : Below w10.heap.size w10 wa := (drew_below w10).trans hBa
           have da1 := (HQ.out.2.2.2.2.2.2.1.below hBa HQ.out.2.2.2.2.2.2.1.lt).cell 1
           simp only [List.getElem?_cons_zero, List.getElem?_cons_succ] at da1
           have Ha := Lib.hid hBa
           clear hBa)
        | (go_at_call 19
           refine (must_ok _ _).mono ?_
           rintro e wb ⟨rfl, rfl⟩)
        | (go_at_call 21
           refine (C5.out (w.heap.size + 1 + 1) wa (HQ.out.2.2.1.below Ha.out HQ.out.2.2.1.lt) (HQ.out.2.2.2.2.2.2.2.2.below Ha.out HQ.out.2.2.2.2.2.2.2.2.numLt HQ.out.2.2.2.2.2.2.2.2.startLt)).mono ?_
           rintro e wc ⟨rfl, hBc⟩
           have Hc := Lib.hid (Ha.out.trans (hBc.mono Ha.out.size))
           clear hBc))
    all_goals
      refine Exit.then_normal ?_
      go_wp2_with fail
      go_meet
      exact ⟨rfl, Hc.out⟩
  case rest =>
    obtain ⟨rfl, hBc⟩ := hcut
    have q1 := HQ.out.1.below hBc HQ.out.1.lt
    have q2 := HQ.out.2.1.below hBc HQ.out.2.1.lt
    have q3 := HQ.out.2.2.1.below hBc HQ.out.2.2.1.lt
    have q4 := HQ.out.2.2.2.1.below hBc HQ.out.2.2.2.1.lt
    have q5 := HQ.out.2.2.2.2.1.below hBc HQ.out.2.2.2.2.1.lt
    have qr := HQ.out.2.2.2.2.2.1.below hBc HQ.out.2.2.2.2.2.1.lt
    have qd := HQ.out.2.2.2.2.2.2.1.below hBc HQ.out.2.2.2.2.2.2.1.lt
    have qB := HQ.out.2.2.2.2.2.2.2.1.trans (hBc.mono HQ.out.2.2.2.2.2.2.2.1.size)
    have ql := HQ.out.2.2.2.2.2.2.2.2.below hBc HQ.out.2.2.2.2.2.2.2.2.numLt HQ.out.2.2.2.2.2.2.2.2.startLt
    have d0 := qd.cell 0
    have d1 := qd.cell 1
    simp only [List.getElem?_cons_zero, List.getElem?_cons_succ] at d0 d1
    have E0 := (show RowIs wc.drew _ _ _ from q2).loads (P := Tryz.prog) 32 hal
    have HR := Lib.hid (And.intro q1 (And.intro q2 (And.intro q3 (And.intro q4 (And.intro q5 (And.intro qr (And.intro qd (And.intro qB ql))))))))
    clear hBc q1 q2 q3 q4 q5 qr qd qB ql HQ dr
    go_upto_region 8 with fail
    refine wp_only ?_
    go_region_with
      (first
        | (go_at_call 18
           refine (C4.out w.heap.size gr _ _ wc.drew HR.out.1 HR.out.2.2.2.2.2.1).mono ?_
           rintro e wd ⟨rfl, hBd⟩
           have hBd : Below wc.heap.size wc wd := (drew_below wc).trans hBd
           have dd1 := (HR.out.2.2.2.2.2.2.1.below hBd HR.out.2.2.2.2.2.2.1.lt).cell 1
           simp only [List.getElem?_cons_zero, List.getElem?_cons_succ] at dd1
           have Ed := (HR.out.2.1.below hBd HR.out.2.1.lt).loads (P := Tryz.prog) 32 hal
           have Hd := Lib.hid hBd
           clear hBd)
        | (go_at_call 21
           refine (C6.out (w.heap.size + 1 + 1) wd (HR.out.2.2.1.below Hd.out HR.out.2.2.1.lt) (HR.out.2.2.2.2.2.2.2.2.below Hd.out HR.out.2.2.2.2.2.2.2.2.numLt HR.out.2.2.2.2.2.2.2.2.startLt)).mono ?_
           rintro e we ⟨rfl, hBe⟩
           have hBe : Below wc.heap.size wc we := Hd.out.trans (hBe.mono Hd.out.size)
           have Ee := (HR.out.2.1.below hBe HR.out.2.1.lt).loads (P := Tryz.prog) 32 hal
           have He := Lib.hid hBe
           clear hBe)
        | (go_at_call 23
           refine (C7.out we (HR.out.2.2.2.2.2.2.2.2.below He.out HR.out.2.2.2.2.2.2.2.2.numLt HR.out.2.2.2.2.2.2.2.2.startLt)).mono ?_
           rintro e wf ⟨rfl, hBf⟩
           have hBf : Below wc.heap.size wc wf := He.out.trans (hBf.mono He.out.size)
           have h4f := HR.out.2.2.2.1.below hBf HR.out.2.2.2.1.lt
           have h5f := HR.out.2.2.2.2.1.below hBf HR.out.2.2.2.2.1.lt
           have Ef := h4f.stores (P := Tryz.prog) (capL (A : Int) (Bb : Int) oo) (by rw [hcl]; rfl) hc1
           obtain ⟨wg, hwg⟩ : ∃ y, y = wf.setRow (w.heap.size + 1 + 1 + 1) (capL (A : Int) (Bb : Int) oo).toArray := ⟨_, rfl⟩
           rw [← hwg] at Ef
           have h4g : RowIs wg (w.heap.size + 1 + 1 + 1) 25 (capL (A : Int) (Bb : Int) oo) := by rw [hwg]; exact h4f.setRow _
           have h5g : RowIs wg (w.heap.size + 1 + 1 + 1 + 1) 27 [.int .i64 0] := by rw [hwg]; exact (heap_setRow_other _ _ _ _ (by omega)).trans h5f
           have hbg : Below w.heap.size w wg := by rw [hwg]; exact below_setRow (HR.out.2.2.2.2.2.2.2.1.trans (hBf.mono HR.out.2.2.2.2.2.2.2.1.size)) (by omega) _
           have cg := (h5g.cell 0).trans (show _ = some (Value.int .i64 0) from rfl)
           have fg := h5g.frozen 0
           have Hg := Lib.hid (And.intro h4g (And.intro h5g hbg))
           clear h4f h5f h4g h5g hbg hBf hwg))
    all_goals
      refine Exit.then_normal ?_
      go_wp2_with fail
      refine leaves_cons (f := 15) (args := #[.pointer (some ⟨w.heap.size + 1 + 1 + 1 + 1, 0, none⟩)]) (by simp) (by simp [go_sem]) ?_
      refine (lock1_idle (w.heap.size + 1 + 1 + 1 + 1) _).mono ?_
      rintro e u' wh ⟨rfl, rfl, rfl⟩
      refine ⟨.tuple #[.agg (capL (A : Int) (Bb : Int) oo).toArray, .int .i64 0], results_row_cell rfl _ _ (w.heap.size + 1 + 1 + 1) _ (capL (A : Int) (Bb : Int) oo).toArray (0, 0) _ rfl (Hg.out.1.apart (Apart.setCell wg (w.heap.size + 1 + 1 + 1 + 1) 0 (.int .i64 0)) (by omega)) Tryz.underlying25 rfl (by rw [List.size_toArray, hcl]; kernel_rfl) (w.heap.size + 1 + 1 + 1 + 1) 0 (.int .i64 0) rfl (isAgg_int .i64 (by kernel_rfl)) ((Hg.out.2.1.set 0 _).cell 0), by rw [HE.out.2.2.2.2.2.2, capL_eq], below_setCell Hg.out.2.2 (by omega) _ _⟩
end Go.Proofs.YtejjincnghmbbaaGreatDoor
