/- digest.Tagged: the digest of some bytes under a tag. -/
import Derived.Laws.IdiomStrings
import Derived.Laws.Rows
import Derived.Maps.AppendAt
import Derived.Lib.AppendStr
import Derived.Test.YtgklcfipgdbbgaaGreatDoorM9
import Derived.Test.YtgklcfipgdbbgaaGreatDoorM5
namespace Go.Proofs.YtgklcfipgdbbgaaGreatDoor
open Go.RowKit

abbrev bytesV (l : List UInt8) : List Value := l.map u8v

theorem oneCell_bytes (l : List UInt8) : ∀ v ∈ l.map u8v, v.oneCell' = true := by
  intro v hv
  rw [List.mem_map] at hv
  obtain ⟨c, _, rfl⟩ := hv
  rfl

theorem conv_bytes (t : ByteArray) (w : World) : ∃ cap w', (convert 9 56 (.string t)).run Tryz.prog w = .ok (.slice (some ⟨w.heap.size, 0, none⟩) t.data.toList.length cap) w' ∧
    Bs w'.heap.size w' (.slice (some ⟨w.heap.size, 0, none⟩) t.data.toList.length cap) t.data.toList ∧ Below w.heap.size w w' := by
  have := run_bytes_of_string (P := Tryz.prog) w 9 56 5 t (by kernel_rfl) (by kernel_rfl) (by kernel_rfl)
  have hsz : t.size = t.data.toList.length := by rw [Array.length_toList]; rfl
  have hge := grownCap_ge w t.size 0 5
  obtain ⟨C, hC⟩ : ∃ C, C = grownCap w t.size 0 5 := ⟨_, rfl⟩
  rw [← hC] at this hge
  rw [hsz] at this hge
  obtain ⟨fr, hfr⟩ : ∃ x, x = ((bytesRow t C).size, (bytesRow t C).size + 1) := ⟨_, rfl⟩
  rw [← hfr] at this
  refine ⟨C, _, this, ?_, ?_⟩
  · refine ⟨_, C, rfl, hge, fun hl => ⟨w.heap.size, 0, rfl, ?_, fun i hi => ?_⟩⟩
    · have : (w.drew.alloc (.cells (bytesRow t C) 5 fr)).heap.size = w.heap.size + 1 := by simp
      omega
    · have hb : (w.drew.alloc (.cells (bytesRow t C) 5 fr)).heap[w.heap.size]? = some (.cells (bytesRow t C) 5 fr) := heap_new w.drew _
      rw [cell_of_row _ _ _ _ _ _ hb, Nat.zero_add]
      unfold bytesRow
      rw [Array.getElem?_append_left (by simp at hi; simpa using hi)]
      simp at hi
      simp [hi]
      rfl
  · exact (show Below w.heap.size w w.drew from ⟨rfl, rfl, rfl, Nat.le_refl _, fun _ _ => rfl⟩).alloc (Nat.le_refl _) _

theorem fresh_store {P : Program} (w : World) (T : TypeId) (zs : Array Value) (vs : List Value) (hz : vs.length = zs.size) (h1 : ∀ v ∈ vs, v.oneCell' = true) :
    ∃ w3, (storeCells ⟨w.heap.size, 0, none⟩ vs 0).run P (w.alloc (.cells zs T)) = .ok () w3 ∧ RowIs w3 w.heap.size T vs ∧ Below w.heap.size w w3 := by
  have h0 : RowIs (w.alloc (.cells zs T)) w.heap.size T zs.toList := RowIs.new w zs.toList _
  exact ⟨_, h0.stores vs (by simpa using hz) h1, h0.setRow _, below_setRow ((Below.refl _ w).alloc (Nat.le_refl _) _) (Nat.le_refl _) _⟩

set_option maxRecDepth 100000 in
set_option maxHeartbeats 4000000 in
theorem tagged_any (tag : ByteArray) (l : List UInt8) (v : Value) (w : World) (h : Bs w.heap.size w v l) (hlen : l.length < 2 ^ 47) (ht : tag.data.toList.length < 2 ^ 47) (hl : Laid w) :
    Calls Tryz.prog 52 #[.string tag, v] w fun e w' => e = .returned (.agg (bytesV (Chart.tagged tag.data.toList l)).toArray) ∧ Below w.heap.size w w' := by
  obtain ⟨a, c, rfl, -, -⟩ := h.ex
  have H := Lib.hid h
  have Hl := Lib.hid hl
  clear h hl
  obtain ⟨wa, hwa⟩ : ∃ x, x = w.alloc (.cells #[.int .u8 0, .int .u8 0, .int .u8 0, .int .u8 0, .int .u8 0, .int .u8 0, .int .u8 0, .int .u8 0, .int .u8 0, .int .u8 0, .int .u8 0, .int .u8 0, .int .u8 0, .int .u8 0, .int .u8 0, .int .u8 0, .int .u8 0, .int .u8 0, .int .u8 0, .int .u8 0, .int .u8 0, .int .u8 0, .int .u8 0, .int .u8 0, .int .u8 0, .int .u8 0, .int .u8 0, .int .u8 0, .int .u8 0, .int .u8 0, .int .u8 0, .int .u8 0] 85) := ⟨_, rfl⟩
  have hRa : RowIs wa w.heap.size 85 (List.replicate 32 (u8v 0)) := by rw [hwa]; exact RowIs.new w (List.replicate 32 (u8v 0)) _
  have hBa : Below w.heap.size w wa := by rw [hwa]; exact (Below.refl _ w).alloc (Nat.le_refl _) _
  have hwl := hRa.lt
  obtain ⟨cap, w1, E1, hbs1, hB1⟩ := conv_bytes tag wa
  have hla := Hl.out.below hBa Hl.out.numLt Hl.out.startLt
  have hl1 := hla.below hB1 hla.numLt hla.startLt
  have C1 := Lib.hid (sum_bs hbs1 (by omega) hl1)
  have HA := Lib.hid (And.intro hRa (And.intro hBa (And.intro hB1 (And.intro hla hl1))))
  obtain ⟨g1, hg1⟩ : ∃ x, x = wa.heap.size := ⟨_, rfl⟩
  rw [← hg1] at E1 C1
  have Hg1 := Lib.hid hg1
  clear hbs1 hRa hBa hB1 hla hl1 hg1
  go_enter Tryz.func52, Tryz.ntmps52
  go_upto_region 1 with fail
  rw [← hwa]
  clear hwa
  go_wp2_with fail
  refine C1.out.mono ?_
  rintro e w2 ⟨rfl, hB2⟩
  obtain ⟨d1, hd1⟩ : ∃ d, d = (Chart.sha tag.data.toList).map u8v := ⟨_, rfl⟩
  rw [← hd1]
  have hdl : d1.length = 32 := by rw [hd1, List.length_map, Chart.sha_length]
  obtain ⟨w3, E2, hR3, hB3⟩ := fresh_store (P := Tryz.prog) w2 85 #[.int .u8 0, .int .u8 0, .int .u8 0, .int .u8 0, .int .u8 0, .int .u8 0, .int .u8 0, .int .u8 0, .int .u8 0, .int .u8 0, .int .u8 0, .int .u8 0, .int .u8 0, .int .u8 0, .int .u8 0, .int .u8 0, .int .u8 0, .int .u8 0, .int .u8 0, .int .u8 0, .int .u8 0, .int .u8 0, .int .u8 0, .int .u8 0, .int .u8 0, .int .u8 0, .int .u8 0, .int .u8 0, .int .u8 0, .int .u8 0, .int .u8 0, .int .u8 0] d1 (by rw [hdl]; rfl) (by rw [hd1]; exact oneCell_bytes _)
  obtain ⟨g2, hg2⟩ : ∃ x, x = w2.heap.size := ⟨_, rfl⟩
  have Hd1 := Lib.hid hd1
  have Hg2 := Lib.hid hg2
  clear hd1 hg2
  go_upto_region 2 with fail
  rw [← Hg2.out] at hR3
  rw [← Hg2.out]
  clear E2 E1
  obtain ⟨n, hn⟩ : ∃ n, n = l.length := ⟨_, rfl⟩
  rw [← hn]
  obtain ⟨w4, hw4⟩ : ∃ x, x = w3.alloc (.cells #[.slice (some ⟨g2, 0, none⟩) 32 32, .slice a n c] 56) := ⟨_, rfl⟩
  have hR4 : RowIs w4 w3.heap.size 56 [.slice (some ⟨g2, 0, none⟩) 32 32, .slice a n c] := by rw [hw4]; exact RowIs.new w3 [.slice (some ⟨g2, 0, none⟩) 32 32, .slice a n c] _
  have hB4 : Below w3.heap.size w3 w4 := by rw [hw4]; exact (Below.refl _ w3).alloc (Nat.le_refl _) _
  have hs0 := hB2.size
  have hs1 := hB3.size
  have hs2 := hB4.size
  have hs3 := HA.out.2.2.1.size
  have hbs1 : Bs w4.heap.size w4 (.slice (some ⟨g2, 0, none⟩) 32 32) (Chart.sha tag.data.toList) := by
    have hR5 := hR3.below hB4 hR3.lt
    refine Bs.row hR5 hR5.lt _ (Chart.sha_length _) (Nat.le_refl _) (fun i hi => ?_)
    rw [Hd1.out, Nat.zero_add]
    simp [hi]
  have hbs2 : Bs w4.heap.size w4 (.slice a n c) l := by
    rw [hn]
    have hb := HA.out.2.1.trans ((HA.out.2.2.1.mono (Nat.le_of_lt hwl)).trans ((hB2.mono (by omega)).trans ((hB3.mono (by omega)).trans (hB4.mono (by omega)))))
    exact (H.out.below hb).mono (by omega)
  have C2 := Lib.hid (concat_two _ _ _ _ w3.heap.size 56 w4 hbs1 hbs2 hR4 (by rw [Chart.sha_length]; omega) (by rw [Chart.sha_length]; omega))
  have hrow : Hid (RowIs w4 w.heap.size 85 (List.replicate 32 (u8v 0))) := by
    have hb := (HA.out.2.2.1.trans ((hB2.mono (by omega)).trans ((hB3.mono (by omega)).trans (hB4.mono (by omega)))))
    exact Lib.hid (HA.out.1.below hb hwl)
  have hall : Hid (Below w.heap.size w w4 ∧ Laid w4) := by
    have hb := HA.out.2.1.trans ((HA.out.2.2.1.mono (Nat.le_of_lt hwl)).trans ((hB2.mono (by omega)).trans ((hB3.mono (by omega)).trans (hB4.mono (by omega)))))
    exact Lib.hid ⟨hb, Hl.out.below hb Hl.out.numLt Hl.out.startLt⟩
  have hwl4 : w.heap.size < w4.heap.size := by omega
  have Hn := Lib.hid hn
  clear hbs1 hbs2 hR3 hR4 hB2 hB3 hB4 hn hs0 hs1 hs2 hs3 C1
  go_wp2_with fail
  rw [← hw4]
  clear hw4
  refine C2.out.mono ?_
  rintro e w5 ⟨v5, rfl, hbs5, hB5⟩
  have hla5 := hall.out.2.below hB5 hall.out.2.numLt hall.out.2.startLt
  have C3 := Lib.hid (sum_bs hbs5 (by rw [List.length_append, Chart.sha_length]; omega) hla5)
  have hrow5 := Lib.hid (hrow.out.below hB5 hwl4)
  have hall5 := Lib.hid (hall.out.1.trans (hB5.mono (Nat.le_of_lt hwl4)))
  have hwl5 : w.heap.size < w5.heap.size := Nat.lt_of_lt_of_le hwl4 hB5.size
  clear hbs5 hB5 hla5 C2
  go_wp2_with fail
  refine C3.out.mono ?_
  rintro e w6 ⟨rfl, hB6⟩
  have hrow6 := hrow5.out.below hB6 hwl5
  obtain ⟨d2, hd2⟩ : ∃ d, d = (Chart.sha (Chart.sha tag.data.toList ++ l)).map u8v := ⟨_, rfl⟩
  rw [← hd2]
  have hdl2 : d2.length = 32 := by rw [hd2, List.length_map, Chart.sha_length]
  have E3 := hrow6.stores (P := Tryz.prog) d2 (by rw [hdl2]; rfl) (by rw [hd2]; exact oneCell_bytes _)
  obtain ⟨w7, hw7⟩ : ∃ x, x = w6.setRow w.heap.size d2.toArray := ⟨_, rfl⟩
  rw [← hw7] at E3
  have hR7 : RowIs w7 w.heap.size 85 d2 := by rw [hw7]; exact hrow6.setRow _
  have hB7 : Below w.heap.size w w7 := by rw [hw7]; exact below_setRow (hall5.out.trans (hB6.mono (Nat.le_of_lt hwl5))) (Nat.le_refl _) _
  have Hd2 := Lib.hid hd2
  clear hd2 hw7 hrow6 hB6 C3
  go_wp2_with fail
  refine bodyPost_ret (results_cell_row (d := .array 32 5) rfl _ _ w.heap.size _ d2.toArray (0, 0) rfl hR7 (by kernel_rfl) rfl (by rw [List.size_toArray, hdl2]; kernel_rfl)) rfl ?_
  refine ⟨?_, hB7⟩
  rw [Hd2.out]
  rfl
end Go.Proofs.YtgklcfipgdbbgaaGreatDoor

/- group.rest: the remainder of the number of a digest; group.Scalar. -/
namespace Go.Proofs.YtgklcfipgdbbgaaGreatDoor
open Go.RowKit

/-- The remainder of the number that bytes are. -/
def restOf (m : Nat) (l : List UInt8) : Nat := l.foldl (fun n b => (n * 256 + b.toNat) % m) 0

theorem restOf_lt (m : Nat) (h : 0 < m) (l : List UInt8) : restOf m l < m := by
  unfold restOf
  rcases List.eq_nil_or_concat l with rfl | ⟨a, b, rfl⟩
  · exact h
  · rw [List.concat_eq_append, List.foldl_append]
    exact Nat.mod_lt _ h
theorem restOf_snoc (m : Nat) (l : List UInt8) (b : UInt8) : restOf m (l ++ [b]) = (restOf m l * 256 + b.toNat) % m := by
  unfold restOf
  rw [List.foldl_append]
  rfl

theorem or_low (x y : Nat) (hx : x % 256 = 0) (hy : y < 256) (hx2 : x < 18446744073709551616) : bits .or .u64 (x : Int) (y : Int) = ((x + y : Nat) : Int) := by
  show IntKind.u64.wrap ((BitVec.ofInt 64 (x : Int) ||| BitVec.ofInt 64 (y : Int)).toNat : Int) = _
  rw [BitVec.toNat_or, BitVec.ofInt_natCast, BitVec.ofInt_natCast, BitVec.toNat_ofNat, BitVec.toNat_ofNat]
  have e1 : x % 2 ^ 64 = 2 ^ 8 * (x / 256) := by omega
  have e2 : y % 2 ^ 64 = y := by omega
  rw [e1, e2, ← Nat.two_pow_add_eq_or_of_lt (by omega : y < 2 ^ 8)]
  rw [show 2 ^ 8 * (x / 256) + y = x + y by omega, IntKind.wrap_u64]
  omega

theorem wrap64_256 (n : Nat) : IntKind.u64.wrap ((n : Int) * 256) = ((n * 256 % 18446744073709551616 : Nat) : Int) := by
  rw [IntKind.wrap_u64]
  omega
theorem wrap64_bn (c : UInt8) : IntKind.u64.wrap (bn c) = ((c.toNat : Nat) : Int) := by
  have := c.toNat_lt
  rw [IntKind.wrap_u64]
  unfold bn
  omega
theorem whole_num (n c : Nat) : n / 72057594037927936 * 18446744073709551616 + (n * 256 % 18446744073709551616 + c) = n * 256 + c := by omega

/-- What the closure is: one byte more. -/
theorem fold_any (n m : Nat) (c : UInt8) (gn gm : Nat) (Tn Tm : TypeId) (w : World) (hn : RowIs w gn Tn [.int .u64 n]) (hm : RowIs w gm Tm [.int .u64 m]) (hnm : n < m) (hm0 : 4294967296 ≤ m) (hm1 : m < 2 ^ 62) :
    Calls Tryz.prog 70 #[.int .u8 (bn c), .pointer (some ⟨gn, 0, none⟩), .pointer (some ⟨gm, 0, none⟩)] w (Put gn Tn [.int .u64 (((n * 256 + c.toNat) % m : Nat) : Int)] w) := by
  have hc0 := (hn.cell 0).trans (show _ = some (Value.int .u64 (n : Int)) from rfl)
  have hc1 := (hm.cell 0).trans (show _ = some (Value.int .u64 (m : Int)) from rfl)
  have hf := hn.frozen 0
  have hh : n / 72057594037927936 < m := by omega
  have hl : n * 256 % 18446744073709551616 + c.toNat < 18446744073709551616 := by have := c.toNat_lt; omega
  have C := Lib.hid (div64_any (n / 72057594037927936) (n * 256 % 18446744073709551616 + c.toNat) m hh hl (by omega) w)
  rw [whole_num] at C
  have Hn := Lib.hid hn
  clear hh hl hn
  have eH : ((n : Int) / 72057594037927936) = ((n / 72057594037927936 : Nat) : Int) := rfl
  have eO : bits BinOp.or IntKind.u64 (IntKind.u64.wrap ((n : Int) * 256)) (IntKind.u64.wrap (bn c)) = ((n * 256 % 18446744073709551616 + c.toNat : Nat) : Int) := by
    rw [wrap64_256, wrap64_bn]
    exact or_low _ _ (by omega) c.toNat_lt (by omega)
  have EH := Lib.hid (And.intro eH eO)
  clear eH eO
  go_enter Tryz.func70, Tryz.ntmps70
  go_wp2_with fail
  rw [EH.out.1, EH.out.2]
  refine C.out.mono ?_
  rintro e w1 ⟨rfl, hB⟩
  obtain ⟨r, hr⟩ : ∃ r, r = (n * 256 + c.toNat) % m := ⟨_, rfl⟩
  rw [← hr]
  have hc2 := ((bcell hB).1 gn 0 Hn.out.lt).trans hc0
  have hf2 := ((bcell hB).2 gn 0 Hn.out.lt).trans hf
  have Hr := Lib.hid hr
  clear hr
  go_wp2_with fail
  go_end0
  exact ⟨rfl, (Apart.of_below hB gn).trans (Apart.setCell _ _ _ _), by rw [← Hr.out]; exact (Hn.out.below hB Hn.out.lt).set 0 _⟩
theorem results_cell_one {P : Program} {fn : Func} {p : Tmp} {ty : TypeId} (h : fn.results = #[.cell p ty]) (tmps : Array Value) (w : World) (g o : Nat) (v : Value)
    (hp : tmps.getD p undef = .pointer (some ⟨g, o, none⟩)) (ha : ∀ w, (isAgg ty).run P w = .ok false w) (hc : w.cell? ⟨g, o, none⟩ = some v) : (results fn tmps).run P w = .ok v w := by
  have hp' : tmps[p]?.getD undef = .pointer (some ⟨g, o, none⟩) := by simpa using hp
  simp [results, h, hp', asAddr, loadVar, ha, hc]

theorem agg_get (l : List UInt8) (i : Nat) (c : UInt8) (h : l[i]? = some c) : (l.map u8v).toArray[i]? = some (.int .u8 (bn c)) := by
  rw [List.getElem?_toArray, List.getElem?_map, h]; rfl

set_option maxRecDepth 100000 in
theorem rest_any (l : List UInt8) (hl : l.length = 32) (m : Nat) (hm0 : 4294967296 ≤ m) (hm1 : m < 2 ^ 62) (w : World) :
    Calls Tryz.prog 51 #[.agg (l.map u8v).toArray, .int .u64 m] w fun e w' => e = .returned (.int .u64 (restOf m l)) ∧ Below w.heap.size w w' := by
  obtain ⟨d, hd⟩ : ∃ d, d = l.map u8v := ⟨_, rfl⟩
  rw [← hd]
  have hdl : d.length = 32 := by rw [hd, List.length_map, hl]
  obtain ⟨w1, hw1⟩ : ∃ x, x = w.alloc (.cells d.toArray 85) := ⟨_, rfl⟩
  obtain ⟨w2, hw2⟩ : ∃ x, x = w1.alloc (.cells #[.int .u64 m] 83) := ⟨_, rfl⟩
  obtain ⟨w3, hw3⟩ : ∃ x, x = w2.alloc (.cells #[.int .u64 0] 83) := ⟨_, rfl⟩
  have s1 : w1.heap.size = w.heap.size + 1 := by rw [hw1]; simp
  have s2 : w2.heap.size = w.heap.size + 2 := by rw [hw2]; simp [s1]
  have s3 : w3.heap.size = w.heap.size + 3 := by rw [hw3]; simp [s2]
  have r1 : RowIs w3 w.heap.size 85 d := by
    rw [hw3, hw2]
    refine RowIs.alloc (RowIs.alloc ?_ _) _
    rw [hw1]; exact RowIs.new w d _
  have r2 : RowIs w3 (w.heap.size + 1) 83 [.int .u64 m] := by
    rw [hw3]
    refine RowIs.alloc ?_ _
    rw [hw2, ← s1]; exact RowIs.new w1 [.int .u64 m] _
  have r3 : RowIs w3 (w.heap.size + 1 + 1) 83 [.int .u64 0] := by
    rw [hw3, show w.heap.size + 1 + 1 = w2.heap.size by omega]; exact RowIs.new w2 [.int .u64 0] _
  have hB : Below w.heap.size w w3 := by
    rw [hw3, hw2, hw1]
    exact (((Below.refl _ w).alloc (Nat.le_refl _) _).alloc (by simp) _).alloc (by simp; omega) _
  have E1 := r1.loads (P := Tryz.prog) 32 hdl
  have HH := Lib.hid (And.intro r1 (And.intro r2 (And.intro r3 hB)))
  have Hd := Lib.hid hd
  clear hd r1 r2 r3 hB
  go_enter Tryz.func51, Tryz.ntmps51
  go_upto_region 2 with fail
  rw [← hw1, ← hw2, ← hw3]
  clear hw1 hw2 hw3 s1 s2
  go_wp2_with fail
  go_loopw [10] (fun i wr => ∃ t : Nat, t ≤ 32 ∧ i = .int .i64 t ∧ Hid (RowIs wr (w.heap.size + 1 + 1) 83 [.int .u64 (restOf m (l.take t))]) ∧ Hid (RowIs wr (w.heap.size + 1) 83 [.int .u64 m]) ∧ Hid (Below w.heap.size w wr)) (fun i _ => 32 - (intOf i).toNat)
  case atStart => exact ⟨0, by omega, rfl, Lib.hid HH.out.2.2.1, Lib.hid HH.out.2.1, Lib.hid HH.out.2.2.2⟩
  case round =>
    obtain ⟨t, ht, rfl, hR, hM, hB⟩ := hrel
    by_cases hlt : t < 32
    · obtain ⟨c, hc⟩ : ∃ c, l[t]? = some c := ⟨_, List.getElem?_eq_getElem (by omega)⟩
      have EI := run_index_agg (P := Tryz.prog) (t := 85) (e := 5) (n := 32) (cs := d.toArray) (by kernel_rfl) (isAgg_int .u8 (by kernel_rfl)) (by kernel_rfl)
        .i64 t (.int .u8 (bn c)) hlt (by rw [Hd.out]; exact agg_get l t c hc) wr
      have C := Lib.hid (fold_any (restOf m (l.take t)) m c (w.heap.size + 1 + 1) (w.heap.size + 1) 83 83 wr hR.out hM.out (restOf_lt m (by omega) _) hm0 hm1)
      have Hc := Lib.hid hc; clear hc
      go_wp2_with fail
      refine C.out.mono ?_
      rintro e w4 ⟨rfl, hA1, hR1⟩
      rw [← restOf_snoc] at hR1
      have ht1 : l.take t ++ [c] = l.take (t + 1) := by rw [List.take_add_one, Hc.out]; rfl
      rw [ht1] at hR1
      have HF := Lib.hid (And.intro hR1 (And.intro (hM.out.apart hA1 (by omega)) (hA1.below hB.out (by omega) hB.out.size)))
      clear hA1 hR1 ht1
      go_wp2_with fail
      exact ⟨⟨t + 1, by omega, by go_num, Lib.hid HF.out.1, Lib.hid HF.out.2.1, Lib.hid HF.out.2.2⟩, by simp [intOf]; omega⟩
    · obtain rfl : t = 32 := by omega
      rw [List.take_of_length_le (by omega)] at hR
      obtain ⟨r, hr⟩ : ∃ r, r = restOf m l := ⟨_, rfl⟩
      rw [← hr] at hR
      have Hr := Lib.hid hr
      have hc0 := (hR.out.cell 0).trans (show _ = some (Value.int .u64 (r : Int)) from rfl)
      have hf := hR.out.frozen 0
      clear hr
      go_wp2_with fail
      have hfin := hR.out.set 0 (.int .u64 r)
      refine bodyPost_ret (results_cell_one rfl _ _ _ 0 (.int .u64 r) rfl (isAgg_int .u64 (by kernel_rfl)) (hfin.cell 0)) rfl ?_
      refine ⟨by rw [Hr.out], below_setCell hB.out (by omega) _ _⟩
end Go.Proofs.YtgklcfipgdbbgaaGreatDoor

/- group.Scalar: a scalar that bytes determine. -/
namespace Go.Proofs.YtgklcfipgdbbgaaGreatDoor
open Go.RowKit

def scalarOf (tag l : List UInt8) : Nat := 1 + restOf 2305843009213688668 (Chart.tagged tag l)

theorem scalarOf_ge (tag l : List UInt8) : 1 ≤ scalarOf tag l := by unfold scalarOf; omega
theorem scalarOf_lt (tag l : List UInt8) : scalarOf tag l < 2305843009213688669 := by
  have := restOf_lt 2305843009213688668 (by decide) (Chart.tagged tag l)
  unfold scalarOf; omega

theorem scalar_any (tag : ByteArray) (l : List UInt8) (v : Value) (w : World) (h : Bs w.heap.size w v l) (hlen : l.length < 2 ^ 47) (ht : tag.data.toList.length < 2 ^ 47) (hl : Laid w) :
    Calls Tryz.prog 31 #[.string tag, v] w fun e w' => e = .returned (.int .i64 (scalarOf tag.data.toList l)) ∧ Below w.heap.size w w' := by
  have C1 := Lib.hid (tagged_any tag l v w h hlen ht hl)
  have hge := scalarOf_ge tag.data.toList l
  have hlt := scalarOf_lt tag.data.toList l
  go_enter Tryz.func31, Tryz.ntmps31
  go_wp2_with fail
  refine C1.out.mono ?_
  rintro e w1 ⟨rfl, hB1⟩
  have C2 := Lib.hid (rest_any (Chart.tagged tag.data.toList l) (Chart.tagged_length _ _) 2305843009213688668 (by omega) (by omega) w1)
  go_wp2_with fail
  refine C2.out.mono ?_
  rintro e w2 ⟨rfl, hB2⟩
  obtain ⟨r, hr⟩ : ∃ r : Int, r = (restOf 2305843009213688668 (Chart.tagged tag.data.toList l) : Int) := ⟨_, rfl⟩
  have hs : (scalarOf tag.data.toList l : Int) = 1 + r := by rw [hr]; unfold scalarOf; omega
  rw [← hr]
  have e1 : IntKind.i64.wrap r = r := wrap_i64_small' (by omega) (by omega)
  have e2 : IntKind.i64.wrap (1 + r) = 1 + r := wrap_i64_small' (by omega) (by omega)
  have HH := Lib.hid (And.intro hs (hB1.trans (hB2.mono hB1.size)))
  clear hr hs hB1 hB2 C1 C2 hge hlt
  go_wp2_with fail
  go_ret
  exact ⟨by rw [HH.out.1]; rfl, HH.out.2⟩
end Go.Proofs.YtgklcfipgdbbgaaGreatDoor

/- Bytes that grow; numerals. -/
namespace Go.Proofs.YtgklcfipgdbbgaaGreatDoor
open Go.RowKit
attribute [-go_sem] Builtin.append_

/-- A slice of bytes that lies in a row of its own (from block B on). -/
def Own (B : Nat) (w : World) (v : Value) (l : List UInt8) : Prop := w.ownsRow B 5 1 v l.length (l.map u8v)

theorem Own.nil (B : Nat) (w : World) : Own B w (.slice none 0 0) [] := ⟨rfl, .inl ⟨rfl, rfl⟩⟩
theorem Own.bs {B : Nat} {w : World} {v : Value} {l : List UInt8} (h : Own B w v l) : Bs w.heap.size w v l := by
  obtain ⟨_, ⟨rfl, hn⟩ | ⟨g, cap, cur, rfl, hg, hc, hcap, _, hs, ht⟩⟩ := h
  · have : l = [] := List.eq_nil_of_length_eq_zero hn
    subst this
    exact Bs.nil _ _
  · have hr : RowIs w g 5 cur.toList := hc
    refine Bs.row hr hr.lt l rfl hcap (fun i hi => ?_)
    have h2 := congrArg (·[i]?) ht
    simp only [Nat.mul_one] at h2
    rw [List.getElem?_take_of_lt hi] at h2
    rw [Nat.zero_add, h2, List.getElem?_map, List.getElem?_eq_getElem hi]
    rfl
theorem Own.below {B C : Nat} {w w' : World} {v : Value} {l : List UInt8} (h : Own B w v l) (hb : Below C w w') (hC : w.heap.size ≤ C) : Own B w' v l := by
  obtain ⟨h1, h2 | ⟨g, cap, cur, rfl, hg, hc, hcap, hm, hs, ht⟩⟩ := h
  · exact ⟨h1, .inl h2⟩
  · have hr : RowIs w g 5 cur.toList := hc
    exact ⟨h1, .inr ⟨g, cap, cur, rfl, hg, (hb.block g (Nat.lt_of_lt_of_le hr.lt hC)).trans hc, hcap, hm, hs, ht⟩⟩
theorem Own.mono {B C : Nat} {w : World} {v : Value} {l : List UInt8} (h : Own B w v l) (hb : C ≤ B) : Own C w v l := by
  obtain ⟨h1, h2 | ⟨g, cap, cur, rfl, hg, r⟩⟩ := h
  · exact ⟨h1, .inl h2⟩
  · exact ⟨h1, .inr ⟨g, cap, cur, rfl, Nat.le_trans hb hg, r⟩⟩

theorem own_block {B : Nat} {w : World} {v : Value} {l : List UInt8} (h : Own B w v l) : ∀ g, v.ownBlock = some g → B ≤ g := by
  obtain ⟨_, ⟨rfl, _⟩ | ⟨g, cap, cur, rfl, hg, _⟩⟩ := h
  · intro g hg; cases hg
  · intro k hk
    cases hk
    exact hg

/-- What growing leaves as it was. -/
structure Gr (w : World) (v : Value) (w' : World) (v' : Value) : Prop where
  os : w'.os = w.os
  tape : w'.tape = w.tape
  output : w'.output = w.output
  size : w.heap.size ≤ w'.heap.size
  block : ∀ k, k < w.heap.size → v.ownBlock ≠ some k → w'.heap[k]? = w.heap[k]?
  own : ∀ g, v'.ownBlock = some g → v.ownBlock = some g ∨ w.heap.size ≤ g

theorem Gr.refl (w : World) (v : Value) : Gr w v w v := ⟨rfl, rfl, rfl, Nat.le_refl _, fun _ _ _ => rfl, fun _ h => .inl h⟩
theorem Gr.trans {w w1 w2 : World} {v v1 v2 : Value} (h : Gr w v w1 v1) (k : Gr w1 v1 w2 v2) : Gr w v w2 v2 := by
  refine ⟨k.os.trans h.os, k.tape.trans h.tape, k.output.trans h.output, Nat.le_trans h.size k.size, fun b hb hn => ?_, fun g hg => ?_⟩
  · refine (k.block b (Nat.lt_of_lt_of_le hb h.size) (fun he => ?_)).trans (h.block b hb hn)
    rcases h.own b he with h1 | h1
    · exact hn h1
    · omega
  · rcases k.own g hg with h1 | h1
    · exact h.own g h1
    · exact .inr (Nat.le_trans h.size h1)
theorem Gr.below {B : Nat} {w w' : World} {v v' : Value} {l : List UInt8} (h : Gr w v w' v') (ho : Own B w v l) (hB : B ≤ w.heap.size) : Below B w w' :=
  ⟨h.os, h.tape, h.output, h.size, fun k hk => h.block k (by omega) (fun he => by have := own_block ho k he; omega)⟩
theorem Gr.alloc (w : World) (v : Value) (o : Obj) : Gr w v (w.alloc o) v :=
  have hb : Below w.heap.size w (w.alloc o) := (Below.refl _ w).alloc (Nat.le_refl _) _
  ⟨hb.os, hb.tape, hb.output, hb.size, fun k hk _ => hb.block k hk, fun _ h => .inl h⟩
theorem Gr.of_below {w w' : World} (v : Value) (hb : Below w.heap.size w w') : Gr w v w' v :=
  ⟨hb.os, hb.tape, hb.output, hb.size, fun k hk _ => hb.block k hk, fun _ h => .inl h⟩
theorem Gr.cell {w w' : World} {v v' : Value} (h : Gr w v w' v') {k : Nat} (hk : k < w.heap.size) (hn : v.ownBlock ≠ some k) (o : Nat) : w'.cell? ⟨k, o, none⟩ = w.cell? ⟨k, o, none⟩ :=
  World.cell?_of_block (h.block k hk hn)
theorem own_lt {B : Nat} {w : World} {v : Value} {l : List UInt8} (h : Own B w v l) : ∀ g, v.ownBlock = some g → g < w.heap.size := by
  obtain ⟨_, ⟨rfl, _⟩ | ⟨g, cap, cur, rfl, hg, hc, _⟩⟩ := h
  · intro g hg; cases hg
  · intro k hk
    cases hk
    have hr : RowIs w g 5 cur.toList := hc
    exact hr.lt

/-- append of some bytes to bytes that lie in a row of their own. -/
theorem append_own {B : Nat} {w : World} {v : Value} {l m : List UInt8} (h : Own B w v l) (hB : B ≤ w.heap.size) (g off cap : Nat) (hx : BytesAt w g off m) (hlim : l.length + m.length ≤ 140737488355328) :
    ∃ v' w', (Builtin.append_ #[56, 56] 56 #[v, .slice (some ⟨g, off, none⟩) m.length cap]).run Tryz.prog w = .ok v' w' ∧ Own B w' v' (l ++ m) ∧ Gr w v w' v' := by
  obtain ⟨i, hi, hz, hs, hb⟩ := byte_info
  obtain ⟨v', w', h1, h2, h3, _, h5⟩ := run_append_own_at (P := Tryz.prog) w B 56 56 5 i (u8v 0) 1 1 (by kernel_rfl) hi hz hs hb rfl (by omega) v l.length (l.map u8v) h ⟨g, off, none⟩ m.length cap (m.map u8v) (by simp)
    (fun j u hj => by
      have hadd : (⟨g, off, none⟩ : Addr).add j = ⟨g, off + j, none⟩ := by unfold Addr.add; split <;> simp_all
      rw [hadd]
      have hj1 : j < m.length := by
        apply Classical.byContradiction
        intro hc
        rw [List.getElem?_eq_none (by simpa using hc)] at hj
        simp at hj
      rw [hx j hj1, ← hj]
      simp [hj1]) (fun u hu => by rw [List.mem_map] at hu; obtain ⟨c, _, rfl⟩ := hu; rfl) (by unfold maxLen; omega) (by omega) hB
  refine ⟨v', w', h1, ?_, ?_⟩
  · unfold Own
    rw [List.length_append, List.map_append]
    exact h2
  · refine ⟨h3.os, h3.tape, h3.output, h3.size, fun k hk hn => h3.block k hk (fun he => hn he.symm), fun g hg => ?_⟩
    rcases h5 with h5 | h5
    · exact .inl (h5 ▸ hg)
    · rw [h5] at hg
      cases hg
      exact .inr (Nat.le_refl _)

theorem append_byte {B : Nat} {w : World} {v : Value} {l : List UInt8} (h : Own B w v l) (hB : B ≤ w.heap.size) (c : UInt8) (hlim : l.length + 1 ≤ 140737488355328) :
    ∃ v' w', (Builtin.append_ #[56, 56] 56 #[v, .slice (some ⟨w.heap.size, 0, none⟩) 1 1]).run Tryz.prog (w.alloc (.cells #[.int .u8 (bn c)] 5)) = .ok v' w' ∧ Own B w' v' (l ++ [c]) ∧ Gr w v w' v' := by
  have hr : RowIs (w.alloc (.cells #[.int .u8 (bn c)] 5)) w.heap.size 5 [u8v c] := RowIs.new w [u8v c] _
  have hb : Below w.heap.size w (w.alloc (.cells #[.int .u8 (bn c)] 5)) := (Below.refl _ w).alloc (Nat.le_refl _) _
  obtain ⟨v', w', h1, h2, h3⟩ := append_own (m := [c]) (h.below hb (Nat.le_refl _)) (Nat.le_trans hB hb.size) w.heap.size 0 1 (fun i hi => by
    simp at hi
    subst hi
    exact hr.cell 0) hlim
  exact ⟨v', w', h1, h2, (Gr.of_below v hb).trans h3⟩

theorem append_byte_drew {B : Nat} {w : World} {v : Value} {l : List UInt8} (h : Own B w v l) (hB : B ≤ w.heap.size) (c : UInt8) (hlim : l.length + 1 ≤ 140737488355328) :
    ∃ v' w', (Builtin.append_ #[56, 56] 56 #[v, .slice (some ⟨w.heap.size, 0, none⟩) 1 1]).run Tryz.prog (w.alloc (.cells #[.int .u8 (bn c)] 5)).drew = .ok v' w' ∧ Own B w' v' (l ++ [c]) ∧ Gr w v w' v' := by
  have hr : RowIs (w.alloc (.cells #[.int .u8 (bn c)] 5)).drew w.heap.size 5 [u8v c] := RowIs.new w [u8v c] _
  have hb : Below w.heap.size w (w.alloc (.cells #[.int .u8 (bn c)] 5)).drew := ((Below.refl _ w).alloc (Nat.le_refl _) _).trans ((drew_below _).mono (by simp))
  obtain ⟨v', w', h1, h2, h3⟩ := append_own (m := [c]) (h.below hb (Nat.le_refl _)) (Nat.le_trans hB hb.size) w.heap.size 0 1 (fun i hi => by
    simp at hi
    subst hi
    exact hr.cell 0) hlim
  exact ⟨v', w', h1, h2, (Gr.of_below v hb).trans h3⟩

theorem strCells_eq (s : ByteArray) : Lib.strCells s = s.data.toList.map u8v := by
  simp [Lib.strCells]
  intro a _
  rfl

theorem append_str {B : Nat} {w : World} {v : Value} {l : List UInt8} (h : Own B w v l) (hB : B ≤ w.heap.size) (s : ByteArray) (hlim : l.length + s.data.toList.length ≤ 140737488355328) :
    ∃ v' w', (Builtin.append_ #[56, 9] 56 #[v, .string s]).run Tryz.prog w = .ok v' w' ∧ Own B w' v' (l ++ s.data.toList) ∧ Gr w v w' v' := by
  obtain ⟨i, hi, hz, hs, hb⟩ := byte_info
  have hsz : s.size = s.data.toList.length := by rw [Array.length_toList]; rfl
  have ht : Tryz.prog.underlying 56 = some (.slice 5) := by kernel_rfl
  have hu : Tryz.prog.underlying 9 = some .string := by kernel_rfl
  obtain ⟨v', w', h1, h2, h3, h4⟩ := Lib.run_append_own_string (P := Tryz.prog) w B 56 9 56 5 i ht hu hi hz hs hb v l.length (l.map u8v) h s (by unfold maxLen; omega) (by omega) hB
  have h5 : v'.ownBlock = v.ownBlock ∨ v'.ownBlock = some w.heap.size := by
    rcases h.2 with ⟨rfl, hn⟩ | ⟨g, cap, cur, rfl, hbg, hg, hnc, hcm, hcs, htake⟩
    · by_cases hm : s.size = 0
      · rw [h4.2 ⟨rfl, hm⟩]; exact .inl rfl
      · have hr := run_append_nil_string (P := Tryz.prog) w 56 9 56 5 i (.int .u8 0) ht hu hi hz s (by omega) (by omega) (by rw [hb]; omega)
        rw [h1] at hr
        injection hr with e1 e2
        rw [e1]; exact .inr rfl
    · have hcs' : cur.size = cap := by simpa using hcs
      by_cases hroom : l.length + s.size ≤ cap
      · have hr := Lib.run_append_room_string (P := Tryz.prog) w 56 9 56 5 i ht hu hi hs g l.length cap cur hg s hroom (by omega)
        rw [h1] at hr
        injection hr with e1 e2
        rw [e1]; exact .inl rfl
      · have hr := Lib.run_append_grow_string (P := Tryz.prog) w 56 9 56 5 i (.int .u8 0) ht hu hi hz ⟨g, 0, none⟩ l.length cap (l.map u8v) (by rw [hs]; simp) (World.ownsRow.cells h (g := g) rfl) s (by omega) (by omega) (by rw [hb]; exact growslice_fits (by omega) (by omega))
        rw [h1] at hr
        injection hr with e1 e2
        rw [e1]; exact .inr rfl
  refine ⟨v', w', h1, ?_, ?_⟩
  · unfold Own
    rw [List.length_append, List.map_append, ← strCells_eq, ← hsz]
    exact h2
  · refine ⟨h3.os, h3.tape, h3.output, h3.size, fun k hk hn => h3.block k hk (fun he => hn he.symm), fun g hg => ?_⟩
    rcases h5 with h5 | h5
    · exact .inl (h5 ▸ hg)
    · rw [h5] at hg
      cases hg
      exact .inr (Nat.le_refl _)

/-- The digits of a number. -/
def numB (u : Nat) : List UInt8 := if u < 128 then [UInt8.ofNat u] else UInt8.ofNat (u % 128 + 128) :: numB (u / 128)
termination_by u
decreasing_by omega

theorem numB_small (u : Nat) (h : u < 128) : numB u = [UInt8.ofNat u] := by rw [numB, if_pos h]
theorem numB_big (u : Nat) (h : ¬ u < 128) : numB u = UInt8.ofNat (u % 128 + 128) :: numB (u / 128) := by rw [numB, if_neg h]
theorem numB_length (k : Nat) : ∀ u, u < 2 ^ (7 * k) → (numB u).length ≤ k + 1 := by
  induction k with
  | zero => intro u h; rw [numB_small u (by simp at h; omega)]; simp
  | succ k ih =>
    intro u h
    by_cases hu : u < 128
    · rw [numB_small u hu]; simp
    · rw [numB_big u hu, List.length_cons]
      have e : 2 ^ (7 * (k + 1)) = 2 ^ (7 * k) * 128 := by rw [Nat.mul_add, Nat.pow_add]
      have := ih (u / 128) (Nat.div_lt_of_lt_mul (by rw [e] at h; omega))
      omega
end Go.Proofs.YtgklcfipgdbbgaaGreatDoor
