/- SHA-256, plain: how the bytes of a text are cut into blocks and filled up. -/
import Derived.Laws.IdiomCopy
import Derived.Lib.AppendZeros
import Derived.Test.YtgklcfipgdbbgaaGreatDoorM4
namespace Go.Proofs.YtgklcfipgdbbgaaGreatDoor
open Go.RowKit

theorem wrap64_tn (x : BitVec 32) : IntKind.u64.wrap (tn x) = ((x.toNat : Nat) : Int) := by
  have := x.isLt
  rw [IntKind.wrap_u64]
  unfold tn
  omega

theorem zeros_at (n r L : Nat) (hr : r = n % 64) (hL : L = if 55 < r then 128 else 64) : Chart.zerosFor n = L - 9 - r := by
  unfold Chart.zerosFor
  split at hL <;> omega

/-- What is left of a text behind its whole blocks, filled up. -/
def tailOf (l : List UInt8) : List UInt8 := l.drop (64 * (l.length / 64)) ++ [0x80] ++ List.replicate (Chart.zerosFor l.length) 0 ++ Chart.beBytes (8 * l.length % 2 ^ 64) 8
def lenTail (l : List UInt8) : Nat := if 55 < l.length % 64 then 128 else 64

theorem tail_length (l : List UInt8) : (tailOf l).length = lenTail l := by
  have hz := zeros_at l.length _ _ rfl rfl
  unfold tailOf lenTail
  simp only [List.length_append, List.length_drop, List.length_replicate, List.length_cons, List.length_nil, Chart.beBytes_length, hz]
  split <;> omega
theorem padded_cut (l : List UInt8) : Chart.padded l = l.take (64 * (l.length / 64)) ++ tailOf l := by
  unfold Chart.padded tailOf
  simp only [← List.append_assoc, List.take_append_drop]
theorem padded_len (l : List UInt8) : (Chart.padded l).length = 64 * (l.length / 64) + lenTail l := by
  rw [padded_cut, List.length_append, tail_length, List.length_take]
  omega
theorem padded_head (l : List UInt8) (k : Nat) (h : 64 * k + 64 ≤ l.length) : ((Chart.padded l).drop (64 * k)).take 64 = (l.drop (64 * k)).take 64 := by
  unfold Chart.padded
  rw [List.append_assoc, List.append_assoc, List.drop_append_of_le_length (by omega), List.take_append_of_le_length (by simp; omega)]
theorem padded_tail (l : List UInt8) (j : Nat) : (Chart.padded l).drop (64 * (l.length / 64 + j)) = (tailOf l).drop (64 * j) := by
  rw [padded_cut, Nat.mul_add, List.drop_append]
  rw [List.drop_eq_nil_of_le (by simp; omega), List.nil_append]
  congr 1
  simp; omega

theorem splice_at (a b c vs : List Value) (h : b.length = vs.length) : splice (a ++ (b ++ c)) a.length vs = a ++ vs ++ c := by
  unfold splice
  rw [List.take_left, ← h, ← List.append_assoc, List.drop_left' (by simp)]

/-- The cells that the last blocks are reckoned from. -/
theorem tail_cells (l : List UInt8) :
    splice (((l.drop (64 * (l.length / 64))).map u8v ++ List.replicate (128 - l.length % 64) (u8v 0)).set (l.length % 64) (u8v 0x80)) (lenTail l - 8) ((Chart.beBytes (8 * l.length % 2 ^ 64) 8).map u8v)
      = (tailOf l).map u8v ++ List.replicate (128 - lenTail l) (u8v 0) := by
  have hd : ((l.drop (64 * (l.length / 64))).map u8v).length = l.length % 64 := by simp; omega
  have hz := zeros_at l.length _ _ rfl rfl
  have hL : lenTail l = 64 ∧ l.length % 64 ≤ 55 ∨ lenTail l = 128 ∧ 55 < l.length % 64 := by unfold lenTail; split <;> omega
  obtain ⟨m, hm⟩ : ∃ m, 128 - l.length % 64 = m + 1 := ⟨127 - l.length % 64, by omega⟩
  rw [List.set_append_right _ _ (by omega), hd, Nat.sub_self, hm, List.replicate_succ, List.set_cons_zero]
  have hz' : Chart.zerosFor l.length = lenTail l - 9 - l.length % 64 := by rw [hz]; rfl
  have e : List.replicate m (u8v 0) = List.replicate (Chart.zerosFor l.length) (u8v 0) ++ (List.replicate 8 (u8v 0) ++ List.replicate (128 - lenTail l) (u8v 0)) := by
    rw [List.replicate_append_replicate, List.replicate_append_replicate]
    congr 1
    omega
  rw [e]
  have e2 : (l.drop (64 * (l.length / 64))).map u8v ++ u8v 128 :: (List.replicate (Chart.zerosFor l.length) (u8v 0) ++ (List.replicate 8 (u8v 0) ++ List.replicate (128 - lenTail l) (u8v 0)))
      = ((l.drop (64 * (l.length / 64))).map u8v ++ [u8v 128] ++ List.replicate (Chart.zerosFor l.length) (u8v 0)) ++ (List.replicate 8 (u8v 0) ++ List.replicate (128 - lenTail l) (u8v 0)) := by simp
  have e3 : lenTail l - 8 = ((l.drop (64 * (l.length / 64))).map u8v ++ [u8v 128] ++ List.replicate (Chart.zerosFor l.length) (u8v 0)).length := by
    simp only [List.length_append, hd, List.length_cons, List.length_nil, List.length_replicate]
    omega
  rw [e2, e3, splice_at _ _ _ _ (by simp [Chart.beBytes_length])]
  unfold tailOf
  simp [List.map_append, List.map_replicate]

/-- The bytes of the words that were put so far. -/
def putW (s : Chart.St) (t : Nat) : List Value := ((s.list.take t).flatMap Chart.wordBytes).map u8v ++ List.replicate (32 - 4 * t) (u8v 0)
theorem putW_len (s : Chart.St) (t : Nat) (h : t ≤ 8) : ((s.list.take t).flatMap Chart.wordBytes).length = 4 * t := by
  have : ∀ l : List (BitVec 32), (l.flatMap Chart.wordBytes).length = 4 * l.length := by
    intro l
    induction l with
    | nil => rfl
    | cons a l ih => rw [List.flatMap_cons, List.length_append, ih]; simp [Chart.wordBytes, Chart.beBytes_length]; omega
  rw [this, List.length_take]
  simp [Chart.St.list]; omega
theorem putW_length (s : Chart.St) (t : Nat) (h : t ≤ 8) : (putW s t).length = 32 := by
  simp only [putW, List.length_append, List.length_map, List.length_replicate, putW_len s t h]; omega
theorem putW_next (s : Chart.St) (t : Nat) (h : t < 8) (x : BitVec 32) (hx : s.list[t]? = some x) : splice (putW s t) (4 * t) ((Chart.beBytes x.toNat 4).map u8v) = putW s (t + 1) := by
  have hlen := putW_len s t (by omega)
  have e : putW s t = ((s.list.take t).flatMap Chart.wordBytes).map u8v ++ (List.replicate 4 (u8v 0) ++ List.replicate (32 - 4 * (t + 1)) (u8v 0)) := by
    unfold putW
    rw [List.replicate_append_replicate]
    congr 2
    omega
  have e3 : 4 * t = (((s.list.take t).flatMap Chart.wordBytes).map u8v).length := by rw [List.length_map, hlen]
  rw [e, e3, splice_at _ _ _ _ (by simp [Chart.beBytes_length])]
  unfold putW
  rw [List.take_add_one, hx]
  simp [Chart.wordBytes]
end Go.Proofs.YtgklcfipgdbbgaaGreatDoor

/- digest.Sum: SHA-256 of some bytes. -/
namespace Go.Proofs.YtgklcfipgdbbgaaGreatDoor
open Go.RowKit

/-- The tables of SHA-256 in memory. -/
structure Laid (w : World) : Prop where
  num : ∀ t, t < 64 → w.cell? ⟨4, t, none⟩ = some (.int .u32 (tn (Chart.kAt t)))
  start : ∀ t, t < 8 → w.cell? ⟨3, t, none⟩ = some (.int .u32 (tn (Chart.start.list.getD t 0)))
  numLt : 4 < w.heap.size
  startLt : 3 < w.heap.size

theorem Laid.apart {w w' : World} {g : Nat} (h : Laid w) (ha : Apart g w w') (h1 : g ≠ 4) (h2 : g ≠ 3) : Laid w' :=
  ⟨fun t ht => (ha.cell h.numLt h1.symm t).trans (h.num t ht), fun t ht => (ha.cell h.startLt h2.symm t).trans (h.start t ht), Nat.lt_of_lt_of_le h.numLt ha.size, Nat.lt_of_lt_of_le h.startLt ha.size⟩
theorem Laid.below {B : Nat} {w w' : World} (h : Laid w) (hb : Below B w w') (h1 : 4 < B) (h2 : 3 < B) : Laid w' :=
  ⟨fun t ht => ((bcell hb).1 _ _ h1).trans (h.num t ht), fun t ht => ((bcell hb).1 _ _ h2).trans (h.start t ht), Nat.lt_of_lt_of_le h.numLt hb.size, Nat.lt_of_lt_of_le h.startLt hb.size⟩

set_option maxRecDepth 100000 in
set_option maxHeartbeats 4000000 in
theorem sum_any (l : List UInt8) (A : Option Addr) (g off cap : Nat) (hA : l ≠ [] → A = some ⟨g, off, none⟩) (hcap : l.length ≤ cap) (hlen : l.length < 2 ^ 60) (w : World) (hl : Laid w)
    (hb : l ≠ [] → BytesAt w g off l ∧ g < w.heap.size) :
    Calls Tryz.prog 71 #[.slice A l.length cap] w fun e w' => e = .returned (.agg ((Chart.sha l).map u8v).toArray) ∧ Below w.heap.size w w' := by
  have HA := Lib.hid hA; clear hA
  have Hl := Lib.hid hl; clear hl
  have Hb := Lib.hid hb; clear hb
  have s0 : ∀ o, (w.alloc o).cell? ⟨3, 0, none⟩ = some (u32v Chart.start.a) := fun o => (cell_alloc _ Hl.out.startLt).trans (Hl.out.start 0 (by omega))
  have s1 : ∀ o, (w.alloc o).cell? ⟨3, 1, none⟩ = some (u32v Chart.start.b) := fun o => (cell_alloc _ Hl.out.startLt).trans (Hl.out.start 1 (by omega))
  have s2 : ∀ o, (w.alloc o).cell? ⟨3, 2, none⟩ = some (u32v Chart.start.c) := fun o => (cell_alloc _ Hl.out.startLt).trans (Hl.out.start 2 (by omega))
  have s3 : ∀ o, (w.alloc o).cell? ⟨3, 3, none⟩ = some (u32v Chart.start.d) := fun o => (cell_alloc _ Hl.out.startLt).trans (Hl.out.start 3 (by omega))
  have s4 : ∀ o, (w.alloc o).cell? ⟨3, 4, none⟩ = some (u32v Chart.start.e) := fun o => (cell_alloc _ Hl.out.startLt).trans (Hl.out.start 4 (by omega))
  have s5 : ∀ o, (w.alloc o).cell? ⟨3, 5, none⟩ = some (u32v Chart.start.f) := fun o => (cell_alloc _ Hl.out.startLt).trans (Hl.out.start 5 (by omega))
  have s6 : ∀ o, (w.alloc o).cell? ⟨3, 6, none⟩ = some (u32v Chart.start.g) := fun o => (cell_alloc _ Hl.out.startLt).trans (Hl.out.start 6 (by omega))
  have s7 : ∀ o, (w.alloc o).cell? ⟨3, 7, none⟩ = some (u32v Chart.start.h) := fun o => (cell_alloc _ Hl.out.startLt).trans (Hl.out.start 7 (by omega))
  go_enter Tryz.func71, Tryz.ntmps71
  go_upto_block 0 with fail
  obtain ⟨p, hp⟩ : ∃ p, p = Chart.padded l := ⟨_, rfl⟩
  have Hp := Lib.hid hp; clear hp
  obtain ⟨K, hK⟩ : ∃ K, K = l.length / 64 := ⟨_, rfl⟩
  have HK := Lib.hid hK; clear hK
  obtain ⟨r, hr⟩ : ∃ r, r = l.length - 64 * K := ⟨_, rfl⟩
  have Hr := Lib.hid hr; clear hr
  go_cut [5] (fun v wr => (∃ aa, v = .slice aa r (cap - 64 * K) ∧ (64 * K < l.length → aa = some ⟨g, off + 64 * K, none⟩)) ∧ RowIs wr (w.heap.size + 1) 120 (words (Chart.blocks p K).list) ∧ RowIs wr w.heap.size 85 (List.replicate 32 (u8v 0)) ∧ Below w.heap.size w wr)
  case first =>
    go_wp2_with fail
    go_loopw [5] (fun v wr => ∃ k : Nat, 64 * k ≤ l.length ∧ (∃ aa, v = .slice aa (l.length - 64 * k : Nat) (cap - 64 * k : Nat) ∧ Hid (64 * k < l.length → aa = some ⟨g, off + 64 * k, none⟩)) ∧ Hid (RowIs wr (w.heap.size + 1) 120 (words (Chart.blocks p k).list) ∧ RowIs wr w.heap.size 85 (List.replicate 32 (u8v 0)) ∧ Below w.heap.size w wr)) (fun v _ => match v with | .slice _ n _ => n | _ => 0)
    case atStart =>
      refine ⟨0, by omega, ⟨A, rfl, Lib.hid (fun h => HA.out (by rintro rfl; simp at h))⟩, Lib.hid ⟨?_, ?_, ?_⟩⟩
      · exact RowIs.new2 w _ (words (Chart.blocks p 0).list) 120
      · exact (RowIs.new w (List.replicate 32 (u8v 0)) 85).alloc _
      · exact ((Below.refl _ _).alloc (Nat.le_refl _) _).alloc (by simp) _
    case round =>
      obtain ⟨k, hk, ⟨aa, rfl, haa⟩, hR⟩ := hrel
      by_cases hlt : 64 ≤ l.length - 64 * k
      · have hne : l ≠ [] := by rintro rfl; simp at hlt
        obtain rfl := haa.out (by omega)
        have hgw := (Hb.out hne).2
        have hbs : BytesAt wr g (off + 64 * k) ((l.drop (64 * k)).take 64) := ((Hb.out hne).1.below hR.out.2.2 hgw).part _ _
        have hsz := hR.out.2.2.size
        have C := Lib.hid (absorb_any (Chart.blocks p k) ((l.drop (64 * k)).take 64) (by simp; omega) 120 (w.heap.size + 1) g (off + 64 * k) 64 (cap - 64 * k) (by omega) (by omega) wr hR.out.1 hbs (by omega)
          (fun t ht => ((bcell hR.out.2.2).1 _ _ Hl.out.numLt).trans (Hl.out.num t ht)) (by have := Hl.out.numLt; omega))
        clear hbs
        have eL : ¬ (l.length - 64 * k : Nat) < 64 := by omega
        have eC : ¬ (cap - 64 * k : Nat) < 64 := by omega
        go_wp2_with fail
        refine C.out.mono ?_
        rintro e w1 ⟨rfl, hA1, hR1⟩
        have eR : l.length - 64 * (k + 1) = l.length - 64 * k - 64 := by omega
        have eR2 : cap - 64 * (k + 1) = cap - 64 * k - 64 := by omega
        rw [← padded_head l k (by omega), ← Hp.out] at hR1
        have HH : Hid (RowIs w1 (w.heap.size + 1) 120 (words (Chart.blocks p (k + 1)).list) ∧ RowIs w1 w.heap.size 85 (List.replicate 32 (u8v 0)) ∧ Below w.heap.size w w1) :=
          Lib.hid ⟨hR1, hR.out.2.1.apart hA1 (by omega), hA1.below hR.out.2.2 (by omega) hsz⟩
        clear hA1 hR1
        have ER := Lib.hid eR; have ER2 := Lib.hid eR2; clear eR eR2
        go_wp2_with fail
        refine ⟨⟨k + 1, by omega, ⟨_, by rw [ER.out, ER2.out], Lib.hid (fun h => ?_)⟩, HH⟩, ?_⟩
        · rw [if_neg (by omega)]; rfl
        · simp; omega
      · go_wp2_with fail
        go_meet
        have hkK : k = K := by rw [HK.out]; omega
        subst hkK
        exact ⟨⟨aa, by rw [Hr.out], haa.out⟩, hR.out.1, hR.out.2.1, hR.out.2.2⟩
  case rest =>
    obtain ⟨⟨aa, rfl, haa⟩, hR1, hR2, hB1⟩ := hcut
    have hr64 : r < 64 := by have := Hr.out; have := HK.out; omega
    have hrm : r = l.length % 64 := by have := Hr.out; have := HK.out; omega
    have hsz := hB1.size
    have hszw := hR1.lt
    obtain ⟨ge, hge⟩ : ∃ x, x = wc.heap.size := ⟨_, rfl⟩
    have M : (Instr.makeSlice 56 (.int .i64 64) (.int .i64 128)).run Tryz.prog wc = .ok (.slice (some ⟨ge, 0, none⟩) 64 128) (wc.alloc (.cells (List.replicate 128 (u8v 0)).toArray 5)) := by
      rw [hge]; exact make_bytes 64 128 (by omega) (by omega) wc
    obtain ⟨w1, hw1⟩ : ∃ x, x = wc.alloc (.cells (List.replicate 128 (u8v 0)).toArray 5) := ⟨_, rfl⟩
    rw [← hw1] at M
    have hG1 : RowIs w1 ge 5 (List.replicate 128 (u8v 0)) := by rw [hw1, hge]; exact RowIs.new wc _ _
    have hB2 : Below wc.heap.size wc w1 := by rw [hw1]; exact (Below.refl _ _).alloc (Nat.le_refl _) _
    obtain ⟨w2, hC, hG2, hB3⟩ : ∃ w2, (Builtin.copy_ #[56, 56] 3 #[.slice (some ⟨ge, 0, none⟩) 64 128, .slice aa r (cap - 64 * K)]).run Tryz.prog w1 = .ok (goInt r) w2 ∧
        RowIs w2 ge 5 ((l.drop (64 * K)).map u8v ++ List.replicate (128 - r) (u8v 0)) ∧ Below wc.heap.size wc w2 := by
      have hdl : (l.drop (64 * K)).length = r := by rw [List.length_drop, Hr.out]
      by_cases hr0 : r = 0
      · refine ⟨w1, ?_, ?_, hB2⟩
        · rw [hr0]; exact run_copy_none _ _ _ _ 5 _ _ _ _ _ _ (by kernel_rfl) (by kernel_rfl) (by simp)
        · rw [List.eq_nil_of_length_eq_zero (hdl.trans hr0), hr0]; exact hG1
      · obtain rfl := haa (by have := Hr.out; omega)
        have hne : l ≠ [] := by rintro rfl; simp at hdl; omega
        have hbs := ((Hb.out hne).1.below (hB1.trans (hB2.mono hsz)) (Hb.out hne).2)
        refine ⟨w1.setRow ge ((l.drop (64 * K)).map u8v ++ List.replicate (128 - r) (u8v 0)).toArray, ?_, hG1.setRow _, below_setRow hB2 (by omega) _⟩
        have := hG1.copy (P := Tryz.prog) (dT := 56) (sT := 56) (ty := 3) (elem := 5) (o := 0) (dLen := 64) (dCap := 128) (sLen := r) (sCap := cap - 64 * K) (a := ⟨g, off + 64 * K, none⟩) (vs := (l.drop (64 * K)).map u8v)
          (by kernel_rfl) (by kernel_rfl) (by rw [List.length_map, hdl]; exact (Nat.min_eq_left (by omega)).symm) ?_ (by rw [List.length_map, hdl, List.length_replicate]; omega) ?_
        · rw [this, List.length_map, hdl, List.take_zero, List.nil_append, Nat.zero_add, List.drop_replicate]
        · intro j v hj
          rw [List.getElem?_map] at hj
          have hj1 : j < (l.drop (64 * K)).length := by
            apply Classical.byContradiction
            intro hc
            rw [List.getElem?_eq_none (by omega)] at hj
            simp at hj
          have := hbs.part (64 * K) (l.length - 64 * K) j (by rw [List.length_take, hdl]; have := Hr.out; omega)
          refine Eq.trans ?_ (this.trans ?_)
          · rw [Addr.add]
            split
            · rename_i h; subst h; rfl
            · rfl
          · rw [List.getElem?_eq_getElem hj1] at hj
            simpa using hj
        · intro v hv
          rw [List.mem_map] at hv
          obtain ⟨x, _, rfl⟩ := hv
          rfl
    have hcl : ((l.drop (64 * K)).map u8v ++ List.replicate (128 - r) (u8v 0)).length = 128 := by simp; have := Hr.out; omega
    obtain ⟨v, hcell⟩ : ∃ v, w2.cell? ⟨ge, r, none⟩ = some v := ⟨_, (hG2.cell r).trans (List.getElem?_eq_getElem (by omega))⟩
    have hfr := hG2.frozen r
    obtain ⟨N, hN⟩ : ∃ x, x = 8 * l.length % 2 ^ 64 := ⟨_, rfl⟩
    have eW : IntKind.u64.wrap ((l.length : Int) * 8) = (N : Int) := by rw [hN, IntKind.wrap_u64]; omega
    have eV : IntKind.u64.wrap (l.length : Int) = (l.length : Int) := by rw [IntKind.wrap_u64]; omega
    have Hh := Lib.hid (And.intro hN (And.intro hge (And.intro hrm hcl)))
    have HG := Lib.hid (And.intro hG2 (And.intro hB3 (And.intro hB1 (And.intro hR1 (And.intro hR2 (And.intro hsz hszw))))))
    clear hN hge hrm hcl hG1 hB2 hG2 hB3 hB1 hR1 hR2 hsz hszw hw1
    have hr' : ¬ (r : Int) < 0 := by omega
    obtain ⟨L, hL⟩ : ∃ x, x = lenTail l := ⟨_, rfl⟩
    have HL := Lib.hid hL; clear hL
    go_upto_if 31 with fail
    go_cut [6] (fun v wr => v = .slice (some ⟨ge, 0, none⟩) L 128 ∧ wr = w2.setCell ⟨ge, r, none⟩ (.int .u8 128))
    case first =>
      by_cases hb : 55 < r
      · have hbi : (55 : Int) < (r : Int) := by omega
        have hL1 : L = 128 := by rw [HL.out, lenTail, if_pos (by rw [← Hh.out.2.2.1]; exact hb)]
        subst hL1
        go_wp2_with fail
        go_meet
        exact ⟨rfl, rfl⟩
      · have hbi : ¬ (55 : Int) < (r : Int) := by omega
        have hL1 : L = 64 := by rw [HL.out, lenTail, if_neg (by rw [← Hh.out.2.2.1]; exact hb)]
        subst hL1
        go_wp2_with fail
        go_meet
        exact ⟨rfl, rfl⟩
    case rest =>
      obtain ⟨rfl, rfl⟩ := hcut
      have hLL : L = 64 ∨ L = 128 := by rw [HL.out, lenTail]; split <;> simp
      obtain ⟨L8, hL8⟩ : ∃ x, x = L - 8 := ⟨_, rfl⟩
      have e8 : IntKind.i64.wrap ((L : Int) - 8) = (L8 : Int) := (wrap_i64_small' (by omega) (by omega)).trans (by omega)
      have d8 : L - L8 = 8 := by omega
      have b8 : L8 < 128 := by omega
      have c8 : L8 ≤ L := by omega
      have c8 : (L8 : Int) ≤ (L : Int) := by omega
      have hu : u8v 128 = .int .u8 128 := rfl
      have hG3 := HG.out.1.set r (u8v 128)
      rw [hu] at hG3
      have Hu := Lib.hid hu
      have C := Lib.hid (put_any N ge L8 8 (128 - L8) (by omega) (by omega) 5 _ (by rw [List.length_set, Hh.out.2.2.2]; omega) _ hG3)
      have Hd := Lib.hid hL8
      clear hL8 hG3 hu
      go_wp2_with fail
      refine C.out.mono ?_
      rintro e w3 ⟨rfl, hA3, hR3⟩
      have hge := Hh.out.2.1
      have hKK : K + L / 64 = p.length / 64 := by
        rw [Hp.out, padded_len, ← HK.out, ← HL.out]; omega
      have hA4 : Apart ge wc w3 := (Apart.of_below HG.out.2.1 ge).trans ((Apart.setCell _ _ _ _).trans hA3)
      have hT : Hid (RowIs w3 ge 5 ((tailOf l).map u8v ++ List.replicate (128 - L) (u8v 0))) := by
        refine Lib.hid (cast (congrArg (RowIs _ _ _) ?_) hR3)
        have := tail_cells l
        rw [← Hh.out.1, ← Hh.out.2.2.1, ← HK.out, ← HL.out, ← Hd.out, show u8v 0x80 = .int .u8 128 from rfl] at this
        exact this
      have hS : Hid (RowIs w3 (w.heap.size + 1) 120 (words (Chart.blocks p (K + 0)).list) ∧ RowIs w3 w.heap.size 85 (List.replicate 32 (u8v 0)) ∧ Below w.heap.size w w3) := by
        obtain ⟨h1, h2, h3, h4, h5, h6, h7⟩ := HG.out
        exact Lib.hid ⟨h4.apart hA4 (by omega), h5.apart hA4 (by omega), hA4.below h3 (by omega) (by omega)⟩
      have hgl := Nat.lt_of_lt_of_le (show ge < w3.heap.size from hT.out.lt) (Nat.le_refl _)
      have HKK := Lib.hid hKK
      have Hge : Hid (w.heap.size + 1 < ge) := Lib.hid (by have := HG.out.2.2.2.2.2.2; omega)
      clear hA3 hR3 hA4 hge hKK hgl C Hd M hC hcell hfr e8 d8 b8 c8 eW eV
      obtain ⟨pk, hpk⟩ : ∃ x, x = p.length / 64 := ⟨_, rfl⟩
      rw [← hpk] at HKK
      have Hpk := Lib.hid hpk; clear hpk
      obtain ⟨sz, hsz⟩ : ∃ x, x = w.heap.size := ⟨_, rfl⟩
      go_upto_block 2 with fail
      go_cut [6] (fun _ wr => RowIs wr (w.heap.size + 1) 120 (words (Chart.blocks p pk).list) ∧ RowIs wr w.heap.size 85 (List.replicate 32 (u8v 0)) ∧ Below w.heap.size w wr)
      case first =>
        go_wp2_with fail
        go_loopw [6] (fun v wr => ∃ j : Nat, 64 * j ≤ L ∧ (∃ aa, v = .slice aa (L - 64 * j : Nat) (128 - 64 * j : Nat) ∧ Hid (64 * j < L → aa = some ⟨ge, 64 * j, none⟩)) ∧ Hid (RowIs wr ge 5 ((tailOf l).map u8v ++ List.replicate (128 - L) (u8v 0))) ∧ Hid (RowIs wr (w.heap.size + 1) 120 (words (Chart.blocks p (K + j)).list) ∧ RowIs wr w.heap.size 85 (List.replicate 32 (u8v 0)) ∧ Below w.heap.size w wr)) (fun v _ => match v with | .slice _ n _ => n | _ => 0)
        case atStart => exact ⟨0, by omega, ⟨_, rfl, Lib.hid (fun _ => rfl)⟩, hT, hS⟩
        case round =>
          obtain ⟨j, hj, ⟨aa, rfl, haa⟩, hT, hR⟩ := hrel
          by_cases hlt : 0 < L - 64 * j
          · obtain rfl := haa.out (by omega)
            have hbs : BytesAt wr ge (64 * j) (((tailOf l).drop (64 * j)).take 64) := by
              have : BytesAt wr ge 0 (tailOf l) := by
                intro i hi
                rw [Nat.zero_add, hT.out.cell i, List.getElem?_append_left (by simpa using hi)]
                simp [hi]
              have := this.part (64 * j) 64
              rwa [Nat.zero_add] at this
            have htl : (tailOf l).length = L := (tail_length l).trans HL.out.symm
            have hsz := hR.out.2.2.size
            have C := Lib.hid (absorb_any (Chart.blocks p (K + j)) (((tailOf l).drop (64 * j)).take 64) (by rw [List.length_take, List.length_drop, htl]; omega) 120 (w.heap.size + 1) ge (64 * j) 64 (128 - 64 * j) (by omega) (by omega) wr hR.out.1 hbs hT.out.lt
              (fun t ht => ((bcell hR.out.2.2).1 _ _ Hl.out.numLt).trans (Hl.out.num t ht)) (by have := Hl.out.numLt; omega))
            clear hbs htl
            have eL : ¬ (L - 64 * j : Nat) < 64 := by omega
            have eC : ¬ (128 - 64 * j : Nat) < 64 := by omega
            have eL0 : (0 : Int) < (L - 64 * j : Nat) := by omega
            go_wp2_with fail
            refine C.out.mono ?_
            rintro e w4 ⟨rfl, hA1, hR1⟩
            have eR : L - 64 * (j + 1) = L - 64 * j - 64 := by omega
            have eR2 : 128 - 64 * (j + 1) = 128 - 64 * j - 64 := by omega
            rw [← padded_tail l j, ← Hp.out, ← HK.out] at hR1
            have HH : Hid (RowIs w4 (w.heap.size + 1) 120 (words (Chart.blocks p (K + (j + 1))).list) ∧ RowIs w4 w.heap.size 85 (List.replicate 32 (u8v 0)) ∧ Below w.heap.size w w4) :=
              Lib.hid ⟨hR1, hR.out.2.1.apart hA1 (by omega), hA1.below hR.out.2.2 (by omega) hsz⟩
            have hT1 := Lib.hid (hT.out.apart hA1 (by have := Hge.out; omega))
            clear hA1 hR1
            have ER := Lib.hid eR; have ER2 := Lib.hid eR2; clear eR eR2
            go_wp2_with fail
            refine ⟨⟨j + 1, by omega, ⟨_, by rw [ER.out, ER2.out], Lib.hid (fun h => ?_)⟩, hT1, HH⟩, ?_⟩
            · rw [if_neg (by omega)]; rfl
            · simp; omega
          · have eL0 : ¬ (0 : Int) < (L - 64 * j : Nat) := by omega
            go_wp2_with fail
            go_meet
            have hj2 : K + j = pk := by rw [← HKK.out]; omega
            rw [hj2] at hR
            exact hR.out
      case rest =>
        obtain ⟨hS1, hS2, hB⟩ := hcut
        obtain ⟨st, hst⟩ : ∃ st, st = Chart.blocks p pk := ⟨_, rfl⟩
        rw [← hst] at hS1
        have Hst := Lib.hid hst; clear hst
        have hc0 := (hS1.cell 0).trans (show _ = some (u32v st.a) from rfl)
        have hc1 := (hS1.cell 1).trans (show _ = some (u32v st.b) from rfl)
        have hc2 := (hS1.cell 2).trans (show _ = some (u32v st.c) from rfl)
        have hc3 := (hS1.cell 3).trans (show _ = some (u32v st.d) from rfl)
        have hc4 := (hS1.cell 4).trans (show _ = some (u32v st.e) from rfl)
        have hc5 := (hS1.cell 5).trans (show _ = some (u32v st.f) from rfl)
        have hc6 := (hS1.cell 6).trans (show _ = some (u32v st.g) from rfl)
        have hc7 := (hS1.cell 7).trans (show _ = some (u32v st.h) from rfl)
        have hS2 := Lib.hid hS2
        have hB := Lib.hid hB
        clear hS1
        go_wp2_with fail
        go_loopw [54] (fun i wr => ∃ t : Nat, t ≤ 8 ∧ i = .int .i64 t ∧ Hid (RowIs wr w.heap.size 85 (putW st t)) ∧ Hid (Below w.heap.size w wr)) (fun i _ => 8 - (intOf i).toNat)
        case atStart => exact ⟨0, by omega, rfl, hS2, hB⟩
        case round =>
          obtain ⟨t, ht, rfl, hR, hB⟩ := hrel
          by_cases hlt : t < 8
          · obtain ⟨x, hx⟩ : ∃ x, st.list[t]? = some x := ⟨_, List.getElem?_eq_getElem hlt⟩
            have hW := wrap64_tn x
            have hlen := putW_length st t ht
            have C := Lib.hid (put_any x.toNat w.heap.size (4 * t) 4 (32 - 4 * t) (by omega) (by omega) 85 _ (by omega) wr hR.out)
            rw [putW_next st t hlt x hx] at C
            obtain ⟨q, hq⟩ : ∃ q, q = 4 * t := ⟨_, rfl⟩
            obtain ⟨q4, hq4⟩ : ∃ q, q = 4 * t + 4 := ⟨_, rfl⟩
            have e4 : IntKind.i64.wrap (4 * (t : Int)) = (q : Int) := (wrap_i64_small' (by omega) (by omega)).trans (by omega)
            have e5 : IntKind.i64.wrap ((q : Int) + 4) = (q4 : Int) := (wrap_i64_small' (by omega) (by omega)).trans (by omega)
            have b1 : (q : Int) ≤ (q4 : Int) := by omega
            have b2 : (q4 : Int) ≤ 32 := by omega
            have b2n : q4 ≤ 32 := by omega
            have b1n : q ≤ q4 := by omega
            have b4 : q < 32 := by omega
            have b3 : q4 - q = 4 := by omega
            rw [← hq] at C
            clear hq hq4
            clear hlen
            have EI := run_index_agg (P := Tryz.prog) (t := 120) (e := 118) (n := 8) (cs := #[u32v st.a, u32v st.b, u32v st.c, u32v st.d, u32v st.e, u32v st.f, u32v st.g, u32v st.h]) (by kernel_rfl) (isAgg_int .u32 (by kernel_rfl)) (by kernel_rfl)
              .i64 t (.int .u32 (tn x)) hlt (by rw [← Array.getElem?_toList]; exact (List.getElem?_map (f := u32v) (l := st.list) (i := t)).trans (by rw [hx]; rfl)) wr
            have Hx := Lib.hid hx; clear hx
            go_wp2_with fail
            refine C.out.mono ?_
            rintro e w4 ⟨rfl, hA1, hR1⟩
            have HH := Lib.hid (And.intro hR1 (hA1.below hB.out (Nat.le_refl _) hB.out.size))
            clear hA1 hR1
            go_wp2_with fail
            exact ⟨⟨t + 1, by omega, by go_num, Lib.hid HH.out.1, Lib.hid HH.out.2⟩, by simp [intOf]; omega⟩
          · obtain rfl : t = 8 := by omega
            obtain ⟨out, hout⟩ : ∃ out, out = putW st 8 := ⟨_, rfl⟩
            rw [← hout] at hR
            have hlo : out.length = 32 := by rw [hout]; exact putW_length st 8 (by omega)
            have E1 := hR.out.loads (P := Tryz.prog) 32 hlo
            have hone : ∀ v ∈ out, v.oneCell' = true := by
              intro v hv
              rw [hout] at hv
              unfold putW at hv
              rw [List.mem_append] at hv
              rcases hv with hv | hv
              · rw [List.mem_map] at hv; obtain ⟨x, _, rfl⟩ := hv; rfl
              · rw [List.mem_replicate] at hv; rw [hv.2]; rfl
            have E2 := hR.out.stores (P := Tryz.prog) out rfl hone
            have hset : wr.setRow w.heap.size out.toArray = wr := setRow_self wr _ _ _ _ hR.out
            rw [hset] at E2
            have Hout := Lib.hid hout; have Hone := Lib.hid hone; have Hlo := Lib.hid hlo
            clear hset hone hout
            go_wp2_with fail
            refine bodyPost_ret (results_cell_row (d := .array 32 5) rfl _ _ w.heap.size _ out.toArray (0, 0) rfl hR.out (by kernel_rfl) rfl (by rw [List.size_toArray, hlo]; kernel_rfl)) rfl ?_
            refine ⟨?_, hB.out⟩
            rw [Hout.out, Hst.out, Hpk.out, Hp.out]
            simp only [putW, Chart.sha, Chart.St.bytes]
            simp [Chart.St.list]
end Go.Proofs.YtgklcfipgdbbgaaGreatDoor

/- slices.Grow of the empty slice of bytes; append where there is room. -/
namespace Go.Proofs.YtgklcfipgdbbgaaGreatDoor
open Go.RowKit
attribute [-go_sem] Builtin.append_

theorem zero_bytes (n : Nat) : Builtin.zeroCells #[u8v 0] n = (List.replicate n (u8v 0)).toArray := by
  apply Array.ext
  · simp [Builtin.zeroCells]
  · intro i h1 h2
    simp [Builtin.zeroCells, Nat.mod_one]

theorem grow_run (n : Nat) (h0 : 0 < n) (h48 : (n : Int) ≤ 281474976710656) (w : World) :
    (Builtin.append_ #[56, 3] 56 #[.slice none 0 0, .int .i64 n]).run Tryz.prog w =
      .ok (.slice (some ⟨w.heap.size, 0, none⟩) n (grownCap w n 0 5)) (w.drew.alloc (.cells (List.replicate (grownCap w n 0 5) (u8v 0)).toArray 5)) := by
  obtain ⟨i, hi, hz, hs, hb⟩ := byte_info
  have := Lib.run_append_nil_zeros (P := Tryz.prog) w 56 3 56 5 i (u8v 0) .i64 .i64 (by kernel_rfl) (by kernel_rfl) hi hz n h0 (by omega) (by omega) (by rw [hb]; omega)
  rw [this, show (u8v 0).cells = #[u8v 0] from rfl, zero_bytes, zero_bytes]
  have hge := grownCap_ge w n 0 5
  simp only [List.append_toArray, List.replicate_append_replicate]
  rw [show n + (grownCap w n 0 5 - n) = grownCap w n 0 5 by omega]

theorem grow_any (n : Nat) (h0 : 0 < n) (h48 : (n : Int) ≤ 281474976710656) (w : World) :
    Calls Tryz.prog 90 #[.slice none 0 0, .int .i64 n] w fun e w' => ∃ C, n ≤ C ∧ e = .returned (.slice (some ⟨w.heap.size, 0, none⟩) 0 C) ∧ RowIs w' w.heap.size 5 (List.replicate C (u8v 0)) ∧ Below w.heap.size w w' := by
  have E := grow_run n h0 h48 w
  obtain ⟨C, hC⟩ : ∃ C, C = grownCap w n 0 5 := ⟨_, rfl⟩
  have hge := grownCap_ge w n 0 5
  rw [← hC] at E hge
  obtain ⟨w1, hw1⟩ : ∃ x, x = w.drew.alloc (.cells (List.replicate C (u8v 0)).toArray 5) := ⟨_, rfl⟩
  rw [← hw1] at E
  have hR : RowIs w1 w.heap.size 5 (List.replicate C (u8v 0)) := by rw [hw1]; exact RowIs.new w.drew _ _
  have hB : Below w.heap.size w w1 := by rw [hw1]; exact (show Below w.heap.size w w.drew from ⟨rfl, rfl, rfl, Nat.le_refl _, fun _ _ => rfl⟩).alloc (Nat.le_refl _) _
  clear hw1 hC
  obtain ⟨x, hx⟩ : ∃ x : Int, x = (n : Int) := ⟨_, rfl⟩
  rw [← hx] at E ⊢
  have e1 : IntKind.i64.wrap x = x := wrap_i64_small' (by omega) (by omega)
  have e2 : ¬ x < 0 := by omega
  have e3 : 0 < x := by omega
  have Hx := Lib.hid hx; clear hx
  go_enter Tryz.func90, Tryz.ntmps90
  go_wp2_with fail
  go_ret
  exact ⟨C, hge, rfl, hR, hB⟩
/-- A slice of bytes below a bound. -/
structure Bs (B : Nat) (w : World) (v : Value) (l : List UInt8) : Prop where
  ex : ∃ (a : Option Addr) (cap : Nat), v = .slice a l.length cap ∧ l.length ≤ cap ∧ (l ≠ [] → ∃ g off, a = some ⟨g, off, none⟩ ∧ g < B ∧ BytesAt w g off l)

theorem Bs.below {B : Nat} {w w' : World} {v : Value} {l : List UInt8} (h : Bs B w v l) (hb : Below B w w') : Bs B w' v l := by
  obtain ⟨a, cap, hv, hc, hx⟩ := h.ex
  refine ⟨a, cap, hv, hc, fun hl => ?_⟩
  obtain ⟨g, off, ha, hg, hby⟩ := hx hl
  exact ⟨g, off, ha, hg, hby.below hb hg⟩
theorem Bs.mono {B B' : Nat} {w : World} {v : Value} {l : List UInt8} (h : Bs B w v l) (hb : B ≤ B') : Bs B' w v l := by
  obtain ⟨a, cap, hv, hc, hx⟩ := h.ex
  refine ⟨a, cap, hv, hc, fun hl => ?_⟩
  obtain ⟨g, off, ha, hg, hby⟩ := hx hl
  exact ⟨g, off, ha, Nat.lt_of_lt_of_le hg hb, hby⟩
theorem Bs.apart {B g : Nat} {w w' : World} {v : Value} {l : List UInt8} (h : Bs B w v l) (ha : Apart g w w') (hg : B ≤ g) (hB : B ≤ w.heap.size) : Bs B w' v l :=
  h.below (ha.below (Below.refl _ _) hg hB)
theorem Bs.nil (B : Nat) (w : World) : Bs B w (.slice none 0 0) [] := ⟨none, 0, rfl, Nat.le_refl _, fun h => absurd rfl h⟩
theorem Bs.row {B g off n cap : Nat} {w : World} {t : TypeId} {cs : List Value} (hr : RowIs w g t cs) (hg : g < B) (l : List UInt8) (hn : l.length = n) (hcap : n ≤ cap) (hl : ∀ i (h : i < l.length), cs[off + i]? = some (u8v l[i])) : Bs B w (.slice (some ⟨g, off, none⟩) n cap) l := by
  subst hn
  exact ⟨_, cap, rfl, hcap, fun _ => ⟨g, off, rfl, hg, fun i hi => (hr.cell _).trans (hl i hi)⟩⟩

theorem sum_bs {l : List UInt8} {v : Value} {w : World} (h : Bs w.heap.size w v l) (hlen : l.length < 2 ^ 60) (hl : Laid w) :
    Calls Tryz.prog 71 #[v] w fun e w' => e = .returned (.agg ((Chart.sha l).map u8v).toArray) ∧ Below w.heap.size w w' := by
  obtain ⟨a, cap, rfl, hc, hx⟩ := h.ex
  by_cases hn : l = []
  · exact sum_any l a 0 0 cap (fun h => absurd hn h) hc hlen w hl (fun h => absurd hn h)
  · obtain ⟨g, off, ha, hg, hby⟩ := hx hn
    exact sum_any l a g off cap (fun _ => ha) hc hlen w hl (fun _ => ⟨hby, hg⟩)

/-- append of some bytes where there is room. -/
theorem append_room {B g sLen sCap : Nat} {w : World} {x : Value} {l : List UInt8} {cs : List Value} (hr : RowIs w g 5 cs) (hx : Bs B w x l) (hroom : sLen + l.length ≤ sCap) (hcap : sCap ≤ cs.length) :
    (Builtin.append_ #[56, 56] 56 #[.slice (some ⟨g, 0, none⟩) sLen sCap, x]).run Tryz.prog w =
      .ok (.slice (some ⟨g, 0, none⟩) (sLen + l.length) sCap) (w.setRow g (splice cs sLen (l.map u8v)).toArray) := by
  obtain ⟨i, hi, hz, hs, hb⟩ := byte_info
  obtain ⟨a, cap, rfl, hc, hxx⟩ := hx.ex
  by_cases hn : l = []
  · subst hn
    have h1 : splice cs sLen (([] : List UInt8).map u8v) = cs := by unfold splice; simp
    rw [h1, setRow_self w g _ _ _ hr]
    have hf : ∀ w, (Builtin.firstCells 1 0 (Value.slice a 0 cap)).run Tryz.prog w = .ok #[] w := by
      intro w
      cases a with
      | none => rfl
      | some a => simp [Builtin.firstCells, loadCells, loadCellsFrom]
    have hroom' : sLen ≤ sCap := by simpa using hroom
    have ht : Tryz.prog.underlying 56 = some (.slice 5) := by kernel_rfl
    simp [Builtin.append_, run_underlying ht, sizeOf, typeInfo, hi, hs, Builtin.lenOf, hroom', hf, storeCells]
  · obtain ⟨gx, ox, rfl, hg, hby⟩ := hxx hn
    have := run_append_room (P := Tryz.prog) w 56 56 5 i (by kernel_rfl) hi g sLen sCap cs.toArray hr ⟨gx, ox, none⟩ l.length cap (l.map u8v) (by rw [hs]; simp) (fun j u hj => by
        have hadd : (⟨gx, ox, none⟩ : Addr).add j = ⟨gx, ox + j, none⟩ := by unfold Addr.add; split <;> simp_all
        rw [hadd]
        have hj1 : j < l.length := by
          apply Classical.byContradiction
          intro hc
          rw [List.getElem?_eq_none (by simpa using hc)] at hj
          simp at hj
        rw [hby j hj1, ← hj]
        simp [hj1]) (fun u hu => by rw [List.mem_map] at hu; obtain ⟨c, _, rfl⟩ := hu; rfl) hroom (by rw [hs]; simp; omega)
    rw [this, hs, Nat.mul_one]
    rfl
end Go.Proofs.YtgklcfipgdbbgaaGreatDoor
