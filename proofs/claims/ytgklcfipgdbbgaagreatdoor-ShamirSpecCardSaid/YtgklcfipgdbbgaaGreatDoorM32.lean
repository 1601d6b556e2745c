/- The reference's digest: Sum. -/
import Derived.Test.YtgklcfipgdbbgaaGreatDoorM31
namespace Go.Proofs.YtgklcfipgdbbgaaGreatDoor
open Go.RowKit

theorem Apart.setRow (w : World) (g : Nat) (c : Array Value) : Apart g w (w.setRow g c) :=
  ⟨rfl, rfl, rfl, Nat.le_of_eq (size_setRow w g c).symm, fun k _ hk => heap_setRow_other w g k c hk⟩

theorem flat_get : ∀ (L : List Chart.Word) (q r : Nat), r < 4 → (L.flatMap Chart.wordBytes)[4 * q + r]? = (L[q]?).map fun x => Chart.byteOf x.toNat (3 - r)
  | [], q, r, _ => by simp
  | x :: L, 0, r, h => by
    rw [List.flatMap_cons, List.getElem?_append_left (by simp [Chart.wordBytes, Chart.beBytes_length]; omega)]
    simp only [Nat.mul_zero, Nat.zero_add, List.getElem?_cons_zero, Option.map_some, Chart.wordBytes]
    exact beBytes_get _ 4 r h
  | x :: L, q + 1, r, h => by
    have e : (Chart.wordBytes x).length = 4 := by simp [Chart.wordBytes, Chart.beBytes_length]
    rw [List.flatMap_cons, List.getElem?_append_right (by omega), show 4 * (q + 1) + r - (Chart.wordBytes x).length = 4 * q + r by omega, flat_get L q r h]
    rfl

theorem st_byte (s : Chart.St) (t : Nat) (ht : t < 32) : s.bytes[t]? = some (Chart.byteOf (s.list.getD (t / 4) 0).toNat (3 - t % 4)) := by
  have h := flat_get s.list (t / 4) (t % 4) (by omega)
  rw [show 4 * (t / 4) + t % 4 = t by omega] at h
  unfold Chart.St.bytes
  rw [h]
  have hl : s.list.length = 8 := rfl
  rw [List.getD_eq_getElem?_getD, List.getElem?_eq_getElem (by omega)]
  rfl

def digBuild (parts : Array (Nat × Value)) : Sem Value := Instr.build 85 parts
@[go_sem ↓ high] theorem build_dig_eq (parts : Array (Nat × Value)) : Instr.build 85 parts = digBuild parts := rfl
theorem run_dig0 (w : World) : (digBuild #[]).run Tryz.prog w = .ok (.agg (List.replicate 32 (u8v 0)).toArray) w := by kernel_rfl

/-- The first t bytes put down, zeros behind. -/
def putZ (b : List UInt8) (t : Nat) : List Value := (b.take t).map u8v ++ List.replicate (32 - t) (u8v 0)
theorem putZ_get (b : List UInt8) (hb : b.length = 32) (t : Nat) (ht : t < 32) : (putZ b t)[t]? = some (u8v 0) := by
  unfold putZ
  rw [List.getElem?_append_right (by simp; omega)]
  have e : t - ((b.take t).map u8v).length = 0 := by simp; omega
  rw [e, List.getElem?_replicate, if_pos (by omega)]
theorem putZ_set (b : List UInt8) (hb : b.length = 32) (t : Nat) (ht : t < 32) (c : UInt8) (hc : b[t]? = some c) : (putZ b t).set t (u8v c) = putZ b (t + 1) := by
  unfold putZ
  have hl : ((b.take t).map u8v).length = t := by simp; omega
  rw [List.set_append_right _ _ (by omega), hl, Nat.sub_self, show 32 - t = (32 - (t + 1)) + 1 by omega, List.replicate_succ, List.set_cons_zero, List.take_add_one, hc]
  simp
theorem putZ_all (b : List UInt8) (hb : b.length = 32) : putZ b 32 = b.map u8v := by
  unfold putZ
  rw [List.take_of_length_le (by omega)]
  simp

set_option maxRecDepth 100000 in
set_option maxHeartbeats 8000000 in
theorem rsha_any (l : List UInt8) (hlen : l.length < 1099511627776) (g off cap : Nat) (w : World) (hb : BytesAt w g off l) (hg : g < w.heap.size) :
    Calls Tryz.prog 85 #[.slice (some ⟨g, off, none⟩) l.length cap] w fun e w' => e = .returned (.agg ((Chart.sha l).map u8v).toArray) ∧ Below w.heap.size w w' := by
  obtain ⟨p, hp⟩ : ∃ p, p = Chart.padded l := ⟨_, rfl⟩
  have hp64 : p.length % 64 = 0 := by rw [hp]; exact Chart.padded_length l
  have hpl : p.length < 1099511627776 + 200 := by rw [hp]; simp [Chart.padded, Chart.beBytes_length]; have := zerosFor_lt l.length; omega
  obtain ⟨w1, hw1⟩ : ∃ x, x = w.alloc (.cells (List.replicate 32 (u8v 0)).toArray 85) := ⟨_, rfl⟩
  obtain ⟨w2, hw2⟩ : ∃ x, x = w1.alloc (.cells #[.int .u32 1779033703, .int .u32 3144134277, .int .u32 1013904242, .int .u32 2773480762, .int .u32 1359893119, .int .u32 2600822924, .int .u32 528734635, .int .u32 1541459225] 119) := ⟨_, rfl⟩
  have s1 : w1.heap.size = w.heap.size + 1 := by rw [hw1]; simp
  have s2 : w2.heap.size = w.heap.size + 2 := by rw [hw2]; simp [s1]
  have r1 : RowIs w2 w.heap.size 85 (List.replicate 32 (u8v 0)) := by
    rw [hw2]
    refine RowIs.alloc ?_ _
    rw [hw1]; exact RowIs.new w _ _
  have r2 : RowIs w2 (w.heap.size + 1) 119 (words (Chart.blocks p 0).list) := by
    rw [hw2, ← s1]; exact RowIs.new w1 (words (Chart.blocks p 0).list) _
  have hB : Below w.heap.size w w2 := by rw [hw2, hw1]; exact ((Below.refl _ w).alloc (Nat.le_refl _) _).alloc (by simp) _
  have C := rpad_any l hlen g off cap w2 (hb.below hB hg) (by omega)
  have H0 := Lib.hid (And.intro r1 (And.intro r2 (And.intro hB (And.intro s2 (And.intro hp (And.intro hp64 hpl))))))
  replace C := Lib.hid C
  rw [hw1] at hw2
  clear r1 r2 hB s1 s2 hb hg hp hp64 hpl
  go_enter Tryz.func85, Tryz.ntmps85
  go_wp2_with fail
  have C' := C.out
  rw [hw2] at C'
  refine Calls.mono C' ?_
  clear C C'
  rintro e w3 ⟨v3, rfl, hO, hB3⟩
  rw [← hw2] at hO hB3
  rw [← H0.out.2.2.2.2.1] at hO
  obtain ⟨g3, cap3, rfl, hcap3, hg3, hb3⟩ := hO.shape (by rw [H0.out.2.2.2.2.1]; simp [Chart.padded])
  have hgl3 : g3 < w3.heap.size := by
    obtain ⟨_, ⟨hc, _⟩ | ⟨g, cap, cur, he, _, hx, _⟩⟩ := hO
    · cases hc
    · injection he with e1
      injection e1 with e1
      injection e1 with e1
      subst e1
      apply Classical.byContradiction
      intro hn
      rw [Array.getElem?_eq_none (by omega)] at hx
      cases hx
  obtain ⟨np, hnp⟩ : ∃ n, n = p.length := ⟨_, rfl⟩
  have hq1 := H0.out.1.below hB3 H0.out.1.lt
  have hq2 := H0.out.2.1.below hB3 H0.out.2.1.lt
  have hqB := H0.out.2.2.1.trans (hB3.mono H0.out.2.2.1.size)
  rw [H0.out.2.2.2.1] at hg3
  have H3 := Lib.hid (And.intro hq1 (And.intro hq2 (And.intro hqB (And.intro hb3 (And.intro hgl3 (And.intro hg3 (And.intro hcap3 hnp)))))))
  rw [← hnp]
  have h64 := H0.out.2.2.2.2.2.1
  have hpl := H0.out.2.2.2.2.2.2
  rw [← hnp] at h64 hpl
  clear hq1 hq2 hqB hb3 hgl3 hg3 hcap3 hnp hO hB3 hw2 hw1
  go_upto_block 0 with fail
  go_cut [5] (fun _ wr => RowIs wr (w.heap.size + 1) 119 (words (Chart.blocks p (np / 64)).list) ∧ RowIs wr w.heap.size 85 (List.replicate 32 (u8v 0)) ∧ Below w.heap.size w wr)
  case first =>
    go_wp2_with fail
    go_loopw [5] (fun i wr => ∃ k : Nat, 64 * k ≤ np ∧ i = .int .i64 (64 * k : Nat) ∧ Hid (RowIs wr (w.heap.size + 1) 119 (words (Chart.blocks p k).list) ∧ RowIs wr w.heap.size 85 (List.replicate 32 (u8v 0)) ∧ Below w.heap.size w wr ∧ BytesAt wr g3 0 p ∧ g3 < wr.heap.size)) (fun i _ => np - (intOf i).toNat)
    case atStart => exact ⟨0, by omega, rfl, Lib.hid ⟨H3.out.2.1, H3.out.1, H3.out.2.2.1, H3.out.2.2.2.1, H3.out.2.2.2.2.1⟩⟩
    case round =>
      obtain ⟨k, hk, rfl, HR⟩ := hrel
      by_cases hlt : 64 * k < np
      · have hbs : BytesAt wr g3 (0 + 64 * k) ((p.drop (64 * k)).take 64) := HR.out.2.2.2.1.part _ _
        rw [Nat.zero_add] at hbs
        have hcp := H3.out.2.2.2.2.2.2.1
        have hnp := H3.out.2.2.2.2.2.2.2
        have C := fun wx hx hy => rblock_any (Chart.blocks p k) ((p.drop (64 * k)).take 64) (by simp; omega) g3 (64 * k) 64 (cap3 - 64 * k) (by omega) (by omega) wx hx hy
        replace C := Lib.hid C
        have Hbs := Lib.hid hbs
        obtain ⟨s, hs⟩ : ∃ s, s = Chart.blocks p k := ⟨_, rfl⟩
        obtain ⟨s', hs'⟩ : ∃ s', s' = Chart.blocks p (k + 1) := ⟨_, rfl⟩
        have hss : Chart.blockS s ((p.drop (64 * k)).take 64) = s' := by rw [hs, hs']; rfl
        rw [← hs] at C HR
        rw [hss] at C
        have Hs' := Lib.hid hs'
        have c0 := (HR.out.1.cell 0).trans (show _ = some (u32v s.a) from rfl)
        have c1 := (HR.out.1.cell 1).trans (show _ = some (u32v s.b) from rfl)
        have c2 := (HR.out.1.cell 2).trans (show _ = some (u32v s.c) from rfl)
        have c3 := (HR.out.1.cell 3).trans (show _ = some (u32v s.d) from rfl)
        have c4 := (HR.out.1.cell 4).trans (show _ = some (u32v s.e) from rfl)
        have c5 := (HR.out.1.cell 5).trans (show _ = some (u32v s.f) from rfl)
        have c6 := (HR.out.1.cell 6).trans (show _ = some (u32v s.g) from rfl)
        have c7 := (HR.out.1.cell 7).trans (show _ = some (u32v s.h) from rfl)
        have hk64 : 64 * k + 64 ≤ np := by omega
        have e4 : IntKind.i64.wrap (64 * (k : Int) + 64) = 64 * (k : Int) + 64 := wrap_i64_small' (by omega) (by omega)
        have hc : ¬ cap3 = 64 * k := by omega
        have hsl : s'.list.length = 8 := rfl
        have b1 : (64 : Int) * (k : Int) + 64 ≤ (cap3 : Int) := by omega
        have b2 : ¬ (cap3 : Int) < 64 * (k : Int) + 64 := by omega
        clear hs hs' hss hbs hcp hnp
        go_upto_region 6 with fail
        go_region_with
          (first
            | (go_at_call 95
               refine (C.out wr.drew (fun i hi => Hbs.out i hi) HR.out.2.2.2.2).mono ?_
               rintro e w4 ⟨rfl, hB4⟩
               have HB4 := Lib.hid hB4
               have q := HR.out.1.below ((drew_below wr).trans hB4) HR.out.1.lt
               have E5 := q.stores (P := Tryz.prog) (words s'.list) rfl (oneCell_words _)
               have qA : Apart (w.heap.size + 1) w4 (w4.setRow (w.heap.size + 1) (words s'.list).toArray) := Apart.setRow _ _ _
               have q1 : RowIs (w4.setRow (w.heap.size + 1) (words s'.list).toArray) (w.heap.size + 1) 119 (words s'.list) := q.setRow _
               have q0 := (HR.out.2.1.below ((drew_below wr).trans hB4) HR.out.2.1.lt).apart qA (by omega)
               have qs := ((drew_below wr).trans hB4).size
               have qB := qA.below (HR.out.2.2.1.trans (((drew_below wr).trans hB4).mono HR.out.2.2.1.size)) (by omega) (Nat.le_trans HR.out.2.2.1.size qs)
               have qb : BytesAt (w4.setRow (w.heap.size + 1) (words s'.list).toArray) g3 0 p := fun i hi => (qA.cell (Nat.lt_of_lt_of_le HR.out.2.2.2.2 qs) (by have := H3.out.2.2.2.2.2.1; omega) _).trans ((HR.out.2.2.2.1.below ((drew_below wr).trans hB4) HR.out.2.2.2.2) i hi)
               have qz := Nat.lt_of_lt_of_le HR.out.2.2.2.2 (Nat.le_trans qs qA.size)
               obtain ⟨w5, hw5⟩ : ∃ x, x = w4.setRow (w.heap.size + 1) (words s'.list).toArray := ⟨_, rfl⟩
               rw [← hw5] at E5 qA q1 q0 qB qb qz
               have H4 := Lib.hid (And.intro q1 (And.intro q0 (And.intro qB (And.intro qb qz))))
               clear hB4 q qA q1 q0 qB qb qs qz hw5 c0 c1 c2 c3 c4 c5 c6 c7))
        all_goals
          rw [Hs'.out] at H4
          go_wp2_with fail
          refine ⟨⟨k + 1, hk64, by go_num, H4⟩, by simp [intOf]; omega⟩
      · obtain rfl : 64 * k = np := by omega
        go_wp2_with fail
        go_meet
        rw [Nat.mul_div_cancel_left _ (by decide)]
        exact ⟨HR.out.1, HR.out.2.1, HR.out.2.2.1⟩
  case rest =>
    obtain ⟨r1, r0, rB⟩ := hcut
    obtain ⟨s, hs⟩ : ∃ s, s = Chart.blocks p (np / 64) := ⟨_, rfl⟩
    rw [← hs] at r1
    have hsb : s.bytes = Chart.sha l := by rw [hs, H3.out.2.2.2.2.2.2.2, H0.out.2.2.2.2.1]; rfl
    obtain ⟨z, hz⟩ : ∃ z, z = List.replicate 32 (u8v 0) := ⟨_, rfl⟩
    have hzl : z.length = 32 := by rw [hz]; rfl
    have hz1 : ∀ v ∈ z, v.oneCell' = true := by rw [hz]; exact oneCell_bytes (List.replicate 32 0)
    have EZ := run_dig0
    rw [← hz] at EZ
    obtain ⟨w6, E6, hR6, hB6⟩ := fresh_store (P := Tryz.prog) wc 85 #[.int .u8 0, .int .u8 0, .int .u8 0, .int .u8 0, .int .u8 0, .int .u8 0, .int .u8 0, .int .u8 0, .int .u8 0, .int .u8 0, .int .u8 0, .int .u8 0, .int .u8 0, .int .u8 0, .int .u8 0, .int .u8 0, .int .u8 0, .int .u8 0, .int .u8 0, .int .u8 0, .int .u8 0, .int .u8 0, .int .u8 0, .int .u8 0, .int .u8 0, .int .u8 0, .int .u8 0, .int .u8 0, .int .u8 0, .int .u8 0, .int .u8 0, .int .u8 0] z (by rw [hzl]; rfl) hz1
    have hR6' : RowIs w6 wc.heap.size 85 (putZ s.bytes 0) := by rw [hz] at hR6; exact hR6
    have hsbl : s.bytes.length = 32 := by rw [hsb, Chart.sha_length]
    have hsz := rB.size
    have H6 := Lib.hid (And.intro hR6' (And.intro (r1.below hB6 r1.lt) (And.intro (r0.below hB6 r0.lt) (And.intro (rB.trans (hB6.mono hsz)) (And.intro hsb (And.intro hsbl (And.intro r1.lt hB6.size)))))))
    clear r1 r0 rB hs hsb hR6 hR6' hB6 hsbl hsz hz
    go_upto_block 2 with fail
    clear E6 EZ hzl hz1
    go_wp2_with fail
    go_loopw [7] (fun i wr => ∃ t : Nat, t ≤ 32 ∧ i = .int .i64 t ∧ Hid (RowIs wr wc.heap.size 85 (putZ s.bytes t) ∧ Apart wc.heap.size w6 wr)) (fun i _ => 32 - (intOf i).toNat)
    case atStart => exact ⟨0, by omega, rfl, Lib.hid ⟨H6.out.1, Apart.refl _ _⟩⟩
    case round =>
      obtain ⟨t, ht, rfl, HR⟩ := hrel
      by_cases hlt : t < 32
      · obtain ⟨r, hr⟩ : ∃ r, r = 3 - t % 4 := ⟨_, rfl⟩
        have hsl : s.list.length = 8 := rfl
        have hx := st_byte s t hlt
        rw [← hr] at hx
        obtain ⟨x, hxx⟩ : ∃ x, x = s.list.getD (t / 4) 0 := ⟨_, rfl⟩
        have cq : wr.cell? ⟨w.heap.size + 1, t / 4, none⟩ = some (.int .u32 (tn x)) := by
          rw [HR.out.2.cell H6.out.2.1.lt (by have := H6.out.2.2.2.2.2.2.1; omega), H6.out.2.1.cell]
          unfold words
          rw [List.getElem?_map, List.getElem?_eq_getElem (by omega), hxx, List.getD_eq_getElem?_getD, List.getElem?_eq_getElem (by omega)]
          rfl
        rw [← hxx] at hx
        have cz := (HR.out.1.cell t).trans (putZ_get s.bytes H6.out.2.2.2.2.2.1 t hlt)
        have fz := HR.out.1.frozen t
        have Hx := Lib.hid (putZ_set s.bytes H6.out.2.2.2.2.2.1 t hlt _ hx)
        have e1 := byte_of x.toNat r
        have e2 : IntKind.i64.wrap (8 * ((t : Int) % 4)) = 8 * ((t : Int) % 4) := wrap_i64_small' (by omega) (by omega)
        have e3 : (24 : Int) - 8 * ((t : Int) % 4) = 8 * (r : Int) := by omega
        have e4 : IntKind.i64.wrap (8 * (r : Int)) = 8 * (r : Int) := wrap_i64_small' (by omega) (by omega)
        clear hx hsl hxx
        go_wp2_with fail
        have ee : (tn x / 2 ^ (8 * (3 - t % 4)) % 256 : Int) = bn (Chart.byteOf (BitVec.toNat x) r) := by
          rw [← e1, IntKind.wrap_u8', hr]; rfl
        refine ⟨⟨t + 1, by omega, by go_num, Lib.hid ⟨?_, HR.out.2.trans (Apart.setCell _ _ _ _)⟩⟩, by simp [intOf]; omega⟩
        rw [ee, ← Hx.out]
        exact HR.out.1.set _ _
      · obtain rfl : t = 32 := by omega
        obtain ⟨f, hf⟩ : ∃ f, f = s.bytes.map u8v := ⟨_, rfl⟩
        have hR := HR.out.1
        rw [putZ_all _ H6.out.2.2.2.2.2.1, ← hf] at hR
        have hfl : f.length = 32 := by rw [hf, List.length_map, H6.out.2.2.2.2.2.1]
        have h0 := H6.out.2.2.1.apart HR.out.2 (by have := H6.out.2.2.2.2.2.2.1; omega)
        have hB := HR.out.2.below H6.out.2.2.2.1 (by have := H6.out.2.2.2.2.2.2.1; omega) H6.out.2.2.2.1.size
        have E1 := hR.loads (P := Tryz.prog) 32 hfl
        have E2 := h0.stores (P := Tryz.prog) f (by rw [hfl]; rfl) (by rw [hf]; exact oneCell_bytes _)
        obtain ⟨w7, hw7⟩ : ∃ x, x = wr.setRow w.heap.size f.toArray := ⟨_, rfl⟩
        rw [← hw7] at E2
        have hR7 : RowIs w7 w.heap.size 85 f := by rw [hw7]; exact h0.setRow _
        have hB7 : Below w.heap.size w w7 := by rw [hw7]; exact below_setRow hB (Nat.le_refl _) _
        have Hf := Lib.hid hf
        clear hf hw7 h0 hB hR
        go_wp2_with fail
        refine bodyPost_ret (results_cell_row (d := .array 32 5) rfl _ _ w.heap.size _ f.toArray (0, 0) rfl hR7 (by kernel_rfl) rfl (by rw [List.size_toArray, hfl]; kernel_rfl)) rfl ?_
        refine ⟨?_, hB7⟩
        rw [Hf.out, H6.out.2.2.2.2.1]
end Go.Proofs.YtgklcfipgdbbgaaGreatDoor

/- The reference's digest: Tagged. -/
namespace Go.Proofs.YtgklcfipgdbbgaaGreatDoor
open Go.RowKit
attribute [-go_sem] Builtin.append_

set_option maxRecDepth 100000 in
set_option maxHeartbeats 4000000 in
theorem rtag_any (tag : ByteArray) (ht0 : tag.data.toList ≠ []) (ht : tag.data.toList.length < 1099511627776) (l : List UInt8) (hlen : l.length < 1099511627000) (g off cap : Nat) (w : World) (hb : BytesAt w g off l) (hg : g < w.heap.size) :
    Calls Tryz.prog 64 #[.string tag, .slice (some ⟨g, off, none⟩) l.length cap] w fun e w' => e = .returned (.agg ((Chart.tagged tag.data.toList l).map u8v).toArray) ∧ Below w.heap.size w w' := by
  obtain ⟨wa, hwa⟩ : ∃ x, x = w.alloc (.cells #[.int .u8 0, .int .u8 0, .int .u8 0, .int .u8 0, .int .u8 0, .int .u8 0, .int .u8 0, .int .u8 0, .int .u8 0, .int .u8 0, .int .u8 0, .int .u8 0, .int .u8 0, .int .u8 0, .int .u8 0, .int .u8 0, .int .u8 0, .int .u8 0, .int .u8 0, .int .u8 0, .int .u8 0, .int .u8 0, .int .u8 0, .int .u8 0, .int .u8 0, .int .u8 0, .int .u8 0, .int .u8 0, .int .u8 0, .int .u8 0, .int .u8 0, .int .u8 0] 85) := ⟨_, rfl⟩
  have hRa : RowIs wa w.heap.size 85 (List.replicate 32 (u8v 0)) := by rw [hwa]; exact RowIs.new w (List.replicate 32 (u8v 0)) _
  have hBa : Below w.heap.size w wa := by rw [hwa]; exact (Below.refl _ w).alloc (Nat.le_refl _) _
  obtain ⟨capt, w1, E1, hbs1, hB1⟩ := conv_bytes tag wa
  obtain ⟨_, c9, he, _, hx⟩ := hbs1.ex
  obtain ⟨g1, off1, ha, hg1, hby⟩ := hx ht0
  injection he with e1 e2 e3
  subst e1
  subst e3
  injection ha with ha
  injection ha with h1 h2
  subst h1
  subst h2
  have C1 := Lib.hid (rsha_any _ ht wa.heap.size 0 capt w1 hby hg1)
  obtain ⟨sh, hsh⟩ : ∃ sh, sh = Chart.sha tag.data.toList := ⟨_, rfl⟩
  have hshl : sh.length = 32 := by rw [hsh, Chart.sha_length]
  rw [← hsh] at C1
  have Hsh := Lib.hid hsh
  clear hsh
  have h1 := hRa.below hB1 hRa.lt
  have h2 := hBa.trans (hB1.mono hBa.size)
  have HA := Lib.hid (And.intro h1 (And.intro h2 (And.intro hb hg)))
  have es : wa.heap.size = w.heap.size + 1 := by rw [hwa]; simp
  rw [es] at E1 C1
  have et : tag.data.toList.length = tag.size := by rw [Array.length_toList]; rfl
  rw [et] at E1 C1
  rw [hwa] at E1
  clear es et hbs1 hRa hBa hB1 hx hby hg1 h1 h2 hb hg hwa
  go_enter Tryz.func64, Tryz.ntmps64
  go_upto_region 1 with fail
  go_wp2_with fail
  refine Calls.mono C1.out ?_
  rintro e w2 ⟨rfl, hB2⟩
  have hs1 := HA.out.2.1.size
  have r2 := HA.out.1.below hB2 HA.out.1.lt
  have hBw2 := HA.out.2.1.trans (hB2.mono hs1)
  obtain ⟨d1, hd1⟩ : ∃ d, d = sh.map u8v := ⟨_, rfl⟩
  rw [← hd1]
  have hdl : d1.length = 32 := by rw [hd1, List.length_map, hshl]
  obtain ⟨w3, E2, hR3, hB3⟩ := fresh_store (P := Tryz.prog) w2 85 #[.int .u8 0, .int .u8 0, .int .u8 0, .int .u8 0, .int .u8 0, .int .u8 0, .int .u8 0, .int .u8 0, .int .u8 0, .int .u8 0, .int .u8 0, .int .u8 0, .int .u8 0, .int .u8 0, .int .u8 0, .int .u8 0, .int .u8 0, .int .u8 0, .int .u8 0, .int .u8 0, .int .u8 0, .int .u8 0, .int .u8 0, .int .u8 0, .int .u8 0, .int .u8 0, .int .u8 0, .int .u8 0, .int .u8 0, .int .u8 0, .int .u8 0, .int .u8 0] d1 (by rw [hdl]; rfl) (by rw [hd1]; exact oneCell_bytes _)
  obtain ⟨g2, hg2⟩ : ∃ x, x = w2.heap.size := ⟨_, rfl⟩
  rw [← hg2] at hR3
  have hgl : g2 < w3.heap.size := hR3.lt
  have r3 := r2.below hB3 r2.lt
  have hBw3 := hBw2.trans (hB3.mono hBw2.size)
  have hwl3 := r3.lt
  rw [hd1] at hR3
  have hby : BytesAt w3 g2 0 (sh) := fun i hi => (hR3.cell (0 + i)).trans (by simp [hi])
  -- the joined bytes
  obtain ⟨w4, hw4⟩ : ∃ x, x = w3.alloc (.cells #[] 5) := ⟨_, rfl⟩
  have hB4 : Below w3.heap.size w3 w4 := by rw [hw4]; exact (Below.refl _ w3).alloc (Nat.le_refl _) _
  have hO4 : Own w3.heap.size w4 (.slice (some ⟨w3.heap.size, 0, none⟩) 0 0) [] := by rw [hw4]; exact Own.empty w3 (Nat.le_refl _)
  obtain ⟨v5, w5, E5, hO5, hG5⟩ := append_own (m := sh) hO4 hB4.size g2 0 32 (hby.below hB4 hgl) (by rw [hshl]; simp)
  rw [hshl, hw4] at E5
  have hB5 := hB4.trans (hG5.below hO4 hB4.size)
  have hby5 := (HA.out.2.2.1.below (hBw3.trans (hB5.mono (Nat.le_of_lt hwl3))) HA.out.2.2.2)
  rw [List.nil_append] at hO5
  obtain ⟨v6, w6, E6, hO6, hG6⟩ := append_own (m := l) hO5 hB5.size g off cap hby5 (by omega)
  have hB6 := hB5.trans (hG6.below hO5 hB5.size)
  obtain ⟨g6, cap6, rfl, hc6, hg6, hby6⟩ := hO6.shape (by intro h; rw [List.append_eq_nil_iff] at h; rw [h.1] at hshl; cases hshl)
  have C2 := Lib.hid (rsha_any (sh ++ l) (by simp; omega) g6 0 cap6 w6 hby6 (own_lt hO6 g6 rfl))
  have r6 := r3.below hB6 hwl3
  have hBw6 := hBw3.trans (hB6.mono (Nat.le_of_lt hwl3))
  have H6 := Lib.hid (And.intro r6 (And.intro hBw6 hg2))
  obtain ⟨n6, hn6⟩ : ∃ n, n = (sh ++ l).length := ⟨_, rfl⟩
  rw [← hn6] at E6 C2
  obtain ⟨n, hn⟩ : ∃ n, n = l.length := ⟨_, rfl⟩
  rw [← hn] at E6 ⊢
  rw [hg2] at E5
  clear r6 hBw6 hn6 hn hby6 hg6 hc6 hB6 hG6 hO6 hby5 hB5 hG5 hO5 hO4 hB4 hw4 hby hBw3 r3 hgl hg2 hR3 hd1 hBw2 r2 hs1 hB2 hB3 E1 C1
  go_wp2_with fail
  refine C2.out.mono ?_
  rintro e w7 ⟨rfl, hB7⟩
  have r7 := H6.out.1.below hB7 H6.out.1.lt
  obtain ⟨d2, hd2⟩ : ∃ d, d = (Chart.sha (sh ++ l)).map u8v := ⟨_, rfl⟩
  rw [← hd2]
  have hdl2 : d2.length = 32 := by rw [hd2, List.length_map, Chart.sha_length]
  have E8 := r7.stores (P := Tryz.prog) d2 (by rw [hdl2]; rfl) (by rw [hd2]; exact oneCell_bytes _)
  obtain ⟨w8, hw8⟩ : ∃ x, x = w7.setRow w.heap.size d2.toArray := ⟨_, rfl⟩
  rw [← hw8] at E8
  have hR8 : RowIs w8 w.heap.size 85 d2 := by rw [hw8]; exact r7.setRow _
  have hB8 : Below w.heap.size w w8 := by rw [hw8]; exact below_setRow (H6.out.2.1.trans (hB7.mono H6.out.2.1.size)) (Nat.le_refl _) _
  have Hd2 := Lib.hid hd2
  clear hd2 hw8 r7 hB7 C2
  go_wp2_with fail
  refine bodyPost_ret (results_cell_row (d := .array 32 5) rfl _ _ w.heap.size _ d2.toArray (0, 0) rfl hR8 (by kernel_rfl) rfl (by rw [List.size_toArray, hdl2]; kernel_rfl)) rfl ?_
  refine ⟨?_, hB8⟩
  rw [Hd2.out, Hsh.out]
  rfl
end Go.Proofs.YtgklcfipgdbbgaaGreatDoor
