/- Keys combined by exclusive or, in plain Lean. No program is in sight. -/
import Derived.Test.YtejjincnghmbbaaGreatDoorM3
import Derived.Test.YtejjincnghmbbaaGreatDoorM7
import Derived.Test.YtejjincnghmbbaaGreatDoorM20
import Derived.Test.YtejjincnghmbbaaGreatDoorM17
namespace Chart

def padTag : List UInt8 := [112, 97, 100]
/-- The mask of an element. -/
def maskOf (m : Nat) : List UInt8 := tagged padTag (beBytes m 8)
theorem maskOf_length (m : Nat) : (maskOf m).length = 32 := tagged_length _ _
def xorL (k d : List UInt8) : List UInt8 := k.zipWith (· ^^^ ·) d
/-- A key combined with the mask of an element. -/
def comb (k : List UInt8) (m : Nat) : List UInt8 := xorL k (maskOf m)
theorem xorL_length {k d : List UInt8} (h : k.length = d.length) : (xorL k d).length = k.length := by
  simp [xorL, h]
theorem comb_length {k : List UInt8} (h : k.length = 32) (m : Nat) : (comb k m).length = 32 := by
  unfold comb
  rw [xorL_length (by rw [h, maskOf_length]), h]
theorem xorL_xorL : ∀ {k d : List UInt8}, k.length = d.length → xorL (xorL k d) d = k
  | [], [], _ => rfl
  | a :: k, b :: d, h => by
    have ih := xorL_xorL (k := k) (d := d) (by simpa using h)
    simp only [xorL, List.zipWith_cons_cons] at *
    rw [ih, UInt8.xor_assoc, UInt8.xor_self, UInt8.xor_zero]
  | [], _ :: _, h => by simp at h
  | _ :: _, [], h => by simp at h
theorem comb_comb {k : List UInt8} (h : k.length = 32) (m : Nat) : comb (comb k m) m = k :=
  xorL_xorL (by rw [h, maskOf_length])
theorem xorL_zero : ∀ {n : Nat} {d : List UInt8}, d.length = n → xorL (List.replicate n 0) d = d
  | 0, [], _ => rfl
  | n + 1, a :: d, h => by
    have ih := xorL_zero (n := n) (d := d) (by simpa using h)
    simp only [xorL, List.replicate_succ, List.zipWith_cons_cons] at *
    rw [ih, UInt8.zero_xor]
  | 0, _ :: _, h => by simp at h
  | _ + 1, [], h => by simp at h
theorem comb_zero (m : Nat) : comb (List.replicate 32 0) m = maskOf m := xorL_zero (maskOf_length m)
theorem xorL_eq : ∀ {k d e : List UInt8}, k.length = d.length → d.length = e.length → (xorL (xorL k d) e = k ↔ d = e)
  | [], [], [], _, _ => by simp [xorL]
  | a :: k, b :: d, c :: e, h1, h2 => by
    have ih := xorL_eq (k := k) (d := d) (e := e) (by simpa using h1) (by simpa using h2)
    simp only [xorL, List.zipWith_cons_cons, List.cons.injEq] at *
    rw [ih]
    constructor
    · rintro ⟨h, rfl⟩
      refine ⟨?_, rfl⟩
      have : a ^^^ (a ^^^ b ^^^ c) = a ^^^ a := by rw [h]
      rw [UInt8.xor_self, UInt8.xor_assoc, ← UInt8.xor_assoc, UInt8.xor_self, UInt8.zero_xor] at this
      have h3 : b ^^^ (b ^^^ c) = b ^^^ 0 := by rw [this]
      rw [← UInt8.xor_assoc, UInt8.xor_self, UInt8.zero_xor, UInt8.xor_zero] at h3
      exact h3.symm
    · rintro ⟨rfl, rfl⟩
      exact ⟨by rw [UInt8.xor_assoc, UInt8.xor_self, UInt8.xor_zero], rfl⟩
  | [], _ :: _, _, h, _ => by simp at h
  | _ :: _, [], _, h, _ => by simp at h
  | [], [], _ :: _, _, h => by simp at h
  | _ :: _, _ :: _, [], _, h => by simp at h
theorem comb_other {k : List UInt8} (h : k.length = 32) (m n : Nat) : comb (comb k m) n = k ↔ maskOf m = maskOf n :=
  xorL_eq (by rw [h, maskOf_length]) (by rw [maskOf_length, maskOf_length])
theorem xorL_get {k d : List UInt8} (t : Nat) {a b : UInt8} (h1 : k[t]? = some a) (h2 : d[t]? = some b) : (xorL k d)[t]? = some (a ^^^ b) := by
  simp [xorL, List.getElem?_zipWith, h1, h2]
/-- The bytes after t rounds. -/
def mixed (k d : List UInt8) (t : Nat) : List UInt8 := (xorL k d).take t ++ k.drop t
theorem mixed_zero (k d : List UInt8) : mixed k d 0 = k := by simp [mixed]
theorem mixed_all {k d : List UInt8} (h : k.length = d.length) : mixed k d k.length = xorL k d := by
  unfold mixed
  rw [List.drop_length, List.append_nil, List.take_of_length_le (by rw [xorL_length h]; exact Nat.le_refl _)]
theorem mixed_get {k d : List UInt8} (h : k.length = d.length) {t : Nat} {a : UInt8} (h1 : k[t]? = some a) : (mixed k d t)[t]? = some a := by
  have ht : t < k.length := (List.getElem?_eq_some_iff.1 h1).1
  unfold mixed
  rw [List.getElem?_append_right (by simp [xorL]; omega), List.getElem?_drop]
  have hl : ((xorL k d).take t).length = t := by rw [List.length_take, xorL_length h]; omega
  rw [hl, Nat.sub_self, Nat.add_zero, h1]
theorem mixed_set {k d : List UInt8} (h : k.length = d.length) {t : Nat} {a b : UInt8} (h1 : k[t]? = some a) (h2 : d[t]? = some b) : (mixed k d t).set t (a ^^^ b) = mixed k d (t + 1) := by
  have ht : t < k.length := (List.getElem?_eq_some_iff.1 h1).1
  have hl : ((xorL k d).take t).length = t := by rw [List.length_take, xorL_length h]; omega
  have hx := xorL_get t h1 h2
  have hd : k.drop t = a :: k.drop (t + 1) := by
    rw [List.drop_eq_getElem_cons ht]
    congr 1
    have := List.getElem?_eq_getElem ht
    rw [h1] at this
    exact (Option.some.inj this).symm
  unfold mixed
  rw [List.set_append_right _ _ (by omega), hl, Nat.sub_self, hd, List.set_cons_zero, List.take_add_one, hx]
  simp
theorem mixed_length {k d : List UInt8} (h : k.length = d.length) {t : Nat} (ht : t ≤ k.length) : (mixed k d t).length = k.length := by
  unfold mixed
  rw [List.length_append, List.length_take, xorL_length h, List.length_drop]
  omega
end Chart

/- proxy.combine: a key combined with the mask of an element. -/
namespace Go.Proofs.YtejjincnghmbbaaGreatDoor
open Go.RowKit

def pad_ : ByteArray := ⟨#[112, 97, 100]⟩

/-- The eight bytes after t rounds. -/
def row8 (m t : Nat) : List UInt8 := (Chart.beBytes m 8).take t ++ List.replicate (8 - t) 0
theorem row8_set (m t : Nat) (h : t < 8) : (row8 m t).set t (Chart.byteOf m (7 - t)) = row8 m (t + 1) := by
  have hb := beBytes_get m 8 t h
  have hl : ((Chart.beBytes m 8).take t).length = t := by rw [List.length_take, Chart.beBytes_length]; omega
  unfold row8
  rw [List.set_append_right _ _ (by omega), hl, Nat.sub_self, List.take_add_one, hb, show 8 - t = (8 - (t + 1)) + 1 by omega, List.replicate_succ, List.set_cons_zero]
  simp
theorem row8_all (m : Nat) : row8 m 8 = Chart.beBytes m 8 := by
  unfold row8
  rw [List.take_of_length_le (by rw [Chart.beBytes_length]; exact Nat.le_refl _)]
  simp
theorem row8_length (m t : Nat) (h : t ≤ 8) : (row8 m t).length = 8 := by
  unfold row8
  rw [List.length_append, List.length_take, Chart.beBytes_length, List.length_replicate]
  omega
theorem set_u8 (l : List UInt8) (t : Nat) (c : UInt8) : (l.map u8v).set t (.int .u8 (bn c)) = (l.set t c).map u8v := by
  rw [List.map_set]

theorem ofInt_bn (c : UInt8) : BitVec.ofInt 8 (bn c) = c.toBitVec := by
  unfold bn
  rw [BitVec.ofInt_natCast]
  apply BitVec.eq_of_toNat_eq
  rw [BitVec.toNat_ofNat]
  exact Nat.mod_eq_of_lt c.toNat_lt
@[go_sem high] theorem bits_xor_bn (x y : UInt8) : bits .xor .u8 (bn x) (bn y) = bn (x ^^^ y) := by
  show IntKind.u8.wrap ((BitVec.ofInt 8 (bn x) ^^^ BitVec.ofInt 8 (bn y)).toNat : Int) = _
  rw [ofInt_bn, ofInt_bn, ← UInt8.toBitVec_xor, IntKind.wrap_u8']
  have := (x ^^^ y).toNat_lt
  unfold bn
  rw [UInt8.toNat_toBitVec]
  omega

set_option maxRecDepth 20000 in
theorem combine_any (k : List UInt8) (hk : k.length = 32) (m : Nat) (hm : m < 2 ^ 62) (w : World) (hl : Laid w) :
    Calls Tryz.prog 23 #[.agg (k.map u8v).toArray, .int .i64 m] w fun e w' => e = .returned (.agg (bytesV (Chart.comb k m)).toArray) ∧ Below w.heap.size w w' := by
  obtain ⟨d, hd⟩ : ∃ d, d = k.map u8v := ⟨_, rfl⟩
  rw [← hd]
  have hdl : d.length = 32 := by rw [hd, List.length_map, hk]
  obtain ⟨w1, hw1⟩ : ∃ x, x = w.alloc (.cells d.toArray 23) := ⟨_, rfl⟩
  obtain ⟨w2, hw2⟩ : ∃ x, x = w1.alloc (.cells #[.int .u8 0, .int .u8 0, .int .u8 0, .int .u8 0, .int .u8 0, .int .u8 0, .int .u8 0, .int .u8 0, .int .u8 0, .int .u8 0, .int .u8 0, .int .u8 0, .int .u8 0, .int .u8 0, .int .u8 0, .int .u8 0, .int .u8 0, .int .u8 0, .int .u8 0, .int .u8 0, .int .u8 0, .int .u8 0, .int .u8 0, .int .u8 0, .int .u8 0, .int .u8 0, .int .u8 0, .int .u8 0, .int .u8 0, .int .u8 0, .int .u8 0, .int .u8 0] 23) := ⟨_, rfl⟩
  obtain ⟨w3, hw3⟩ : ∃ x, x = w2.alloc (.cells #[.int .u8 0, .int .u8 0, .int .u8 0, .int .u8 0, .int .u8 0, .int .u8 0, .int .u8 0, .int .u8 0] 58) := ⟨_, rfl⟩
  have s1 : w1.heap.size = w.heap.size + 1 := by rw [hw1]; simp
  have s2 : w2.heap.size = w.heap.size + 1 + 1 := by rw [hw2]; simp [s1]
  have s3 : w3.heap.size = w.heap.size + 1 + 1 + 1 := by rw [hw3]; simp [s2]
  have r1 : RowIs w3 w.heap.size 23 d := by
    rw [hw3, hw2]
    refine RowIs.alloc (RowIs.alloc ?_ _) _
    rw [hw1]; exact RowIs.new w d _
  have r2 : RowIs w3 (w.heap.size + 1) 23 (List.replicate 32 (u8v 0)) := by
    rw [hw3]
    refine RowIs.alloc ?_ _
    rw [hw2, ← s1]; exact RowIs.new w1 (List.replicate 32 (u8v 0)) _
  have r3 : RowIs w3 (w.heap.size + 1 + 1) 58 ((row8 m 0).map u8v) := by
    rw [hw3, ← s2]; exact RowIs.new w2 (List.replicate 8 (u8v 0)) _
  have hB : Below w.heap.size w w3 := by
    rw [hw3, hw2, hw1]
    exact (((Below.refl _ w).alloc (Nat.le_refl _) _).alloc (by simp) _).alloc (by simp; omega) _
  have HH := Lib.hid (And.intro r1 (And.intro r2 (And.intro r3 (And.intro hB (And.intro hd (And.intro hl s3))))))
  clear r1 r2 r3 hB hd hl s1 s2 s3
  have hm : m < 4611686018427387904 := hm
  go_enter Tryz.func23, Tryz.ntmps23
  go_upto_block 0 with fail
  rw [← hw1, ← hw2, ← hw3]
  clear hw1 hw2 hw3
  go_wp2_with fail
  go_loopw [9] (fun i wr => ∃ t : Nat, t ≤ 8 ∧ i = .int .i64 t ∧ Hid (RowIs wr (w.heap.size + 1 + 1) 58 ((row8 m t).map u8v)) ∧ Hid (Apart (w.heap.size + 1 + 1) w3 wr)) (fun i _ => 8 - (intOf i).toNat)
  case atStart => exact ⟨0, by omega, rfl, Lib.hid HH.out.2.2.1, Lib.hid (Apart.refl _ _)⟩
  case round =>
    obtain ⟨t, ht, rfl, hR, hA⟩ := hrel
    by_cases hlt : t < 8
    · have hcell : ∃ v, wr.cell? ⟨w.heap.size + 1 + 1, t, none⟩ = some v := by
        rw [hR.out.cell]
        exact ⟨_, List.getElem?_eq_getElem (by rw [List.length_map, row8_length m t ht]; exact hlt)⟩
      obtain ⟨v, hcell⟩ := hcell
      have hfr := hR.out.frozen t
      obtain ⟨q, hq⟩ : ∃ q : Nat, q = 7 - t := ⟨_, rfl⟩
      have e0 : (7 : Int) - (t : Int) = (q : Int) := by omega
      have e1 := byte_of m q
      have hq7 : q ≤ 7 := by omega
      have e2 : IntKind.i64.wrap (8 * (q : Int)) = 8 * (q : Int) := wrap_i64_small' (by omega) (by omega)
      have e3 : IntKind.i64.wrap (q : Int) = (q : Int) := wrap_i64_small' (by omega) (by omega)
      have Hq := Lib.hid hq
      clear hq
      go_wp2_with fail
      refine ⟨⟨t + 1, by omega, by go_num, Lib.hid ?_, Lib.hid (hA.out.trans (Apart.setCell _ _ _ _))⟩, by simp [intOf]; omega⟩
      rw [← row8_set m t hlt, ← Hq.out, ← set_u8]
      exact hR.out.set _ _
    · obtain rfl : t = 8 := by omega
      rw [row8_all] at hR
      have hA := hA.out
      have hBw : Below w.heap.size w wr := hA.below HH.out.2.2.2.1 (by omega) HH.out.2.2.2.1.size
      have hR1 := HH.out.1.apart hA (by omega)
      have hR2 := HH.out.2.1.apart hA (by omega)
      have hlw := HH.out.2.2.2.2.2.1.below hBw HH.out.2.2.2.2.2.1.numLt HH.out.2.2.2.2.2.1.startLt
      have hbs : Bs wr.heap.size wr (.slice (some ⟨w.heap.size + 1 + 1, 0, none⟩) 8 8) (Chart.beBytes m 8) :=
        Bs.row hR.out hR.out.lt _ (Chart.beBytes_length _ _) (Nat.le_refl _) (fun i hi => by rw [Nat.zero_add]; simp [hi])
      have C1 := Lib.hid (tagged_any pad_ _ _ wr hbs (by rw [Chart.beBytes_length]; decide) (by decide) hlw)
      have H1 := Lib.hid (And.intro hBw (And.intro hR1 hR2))
      have HD := Lib.hid HH.out.2.2.2.2.1
      clear hbs hlw hBw hR1 hR2 hA hR HH
      go_wp2_with fail
      refine C1.out.mono ?_
      rintro e w5 ⟨rfl, hB5⟩
      obtain ⟨o, ho⟩ : ∃ o, o = Chart.tagged pad_.data.toList (Chart.beBytes m 8) := ⟨_, rfl⟩
      rw [← ho]
      have hol : o.length = 32 := by rw [ho, Chart.tagged_length]
      have H5 := Lib.hid (And.intro (H1.out.1.trans (hB5.mono H1.out.1.size)) (And.intro (H1.out.2.1.below hB5 H1.out.2.1.lt) (And.intro (H1.out.2.2.below hB5 H1.out.2.2.lt) ho)))
      clear hB5 ho C1
      obtain ⟨b, hb⟩ : ∃ b, b = bytesV o := ⟨_, rfl⟩
      rw [← hb]
      have Hb := Lib.hid hb
      clear hb
      go_wp2_with fail
      go_loopw [23] (fun i wr => ∃ t : Nat, t ≤ 32 ∧ i = .int .i64 t ∧ Hid (RowIs wr w.heap.size 23 ((Chart.mixed k o t).map u8v)) ∧ Hid (Apart w.heap.size w5 wr)) (fun i _ => 32 - (intOf i).toNat)
      case atStart =>
        refine ⟨0, by omega, rfl, Lib.hid ?_, Lib.hid (Apart.refl _ _)⟩
        rw [Chart.mixed_zero, ← HD.out]
        exact H5.out.2.1
      case round =>
        clear hA ht hlt
        obtain ⟨t, ht, rfl, hR, hA⟩ := hrel
        by_cases hlt : t < 32
        · obtain ⟨c, hc⟩ : ∃ c, o[t]? = some c := ⟨_, List.getElem?_eq_getElem (by omega)⟩
          obtain ⟨a, ha⟩ : ∃ a, k[t]? = some a := ⟨_, List.getElem?_eq_getElem (by omega)⟩
          have EI := run_index_agg (P := Tryz.prog) (t := 59) (e := 5) (n := 32) (cs := b.toArray) (by kernel_rfl) (isAgg_int .u8 (by kernel_rfl)) (by kernel_rfl)
            .i64 t (.int .u8 (bn c)) hlt (by rw [Hb.out]; exact agg_get o t c hc) wr
          have hcell := (hR.out.cell t).trans (show _ = some (u8v a) by rw [List.getElem?_map, Chart.mixed_get (by omega) ha]; rfl)
          have hfr := hR.out.frozen t
          have HS := Lib.hid (Chart.mixed_set (by omega) ha hc)
          clear hc ha
          go_wp2_with fail
          refine ⟨⟨t + 1, by omega, by go_num, Lib.hid ?_, Lib.hid (hA.out.trans (Apart.setCell _ _ _ _))⟩, by simp [intOf]; omega⟩
          rw [← HS.out, ← set_u8]
          exact hR.out.set _ _
        · obtain rfl : t = 32 := by omega
          have hall := Chart.mixed_all (k := k) (d := o) (by omega)
          rw [hk] at hall
          rw [hall] at hR
          have hR := hR.out
          have hA := hA.out
          have hB6 := hA.below H5.out.1 (Nat.le_refl _) H5.out.1.size
          have hz := H5.out.2.2.1.apart hA (by omega)
          obtain ⟨f, hf⟩ : ∃ f, f = (Chart.xorL k o).map u8v := ⟨_, rfl⟩
          rw [← hf] at hR
          have hfl : f.length = 32 := by rw [hf, List.length_map, Chart.xorL_length (by omega), hk]
          have E1 := hR.loads (P := Tryz.prog) 32 hfl
          have E2 := hz.stores (P := Tryz.prog) f (by rw [hfl]; rfl) (by rw [hf]; exact oneCell_bytes _)
          obtain ⟨w7, hw7⟩ : ∃ x, x = wr.setRow (w.heap.size + 1) f.toArray := ⟨_, rfl⟩
          rw [← hw7] at E2
          have hR7 : RowIs w7 (w.heap.size + 1) 23 f := by rw [hw7]; exact hz.setRow _
          have hB7 : Below w.heap.size w w7 := by rw [hw7]; exact below_setRow hB6 (by omega) _
          have Hf := Lib.hid hf
          clear hf hw7 hz hB6 hA hR hall
          go_wp2_with fail
          refine bodyPost_ret (results_cell_row (d := .array 32 5) rfl _ _ (w.heap.size + 1) _ f.toArray (0, 0) rfl hR7 (by kernel_rfl) rfl (by rw [List.size_toArray, hfl]; kernel_rfl)) rfl ?_
          refine ⟨?_, hB7⟩
          rw [Hf.out, H5.out.2.2.2]
          rfl
end Go.Proofs.YtejjincnghmbbaaGreatDoor

/- proxy.Lock: its two closures; a public key that is no element. -/
namespace Go.Proofs.YtejjincnghmbbaaGreatDoor
open Go.RowKit

def lock_ : ByteArray := ⟨#[108, 111, 99, 107]⟩
def mask_ : ByteArray := ⟨#[109, 97, 115, 107]⟩
/-- The exponents of a capsule. -/
def lockR (seed : List UInt8) : Nat := dscalar seed lock_
def lockS (seed : List UInt8) : Nat := dscalar seed mask_
theorem dscalar_pos (k : List UInt8) (s : ByteArray) : 0 < dscalar k s := scalarOf_ge _ _
theorem dscalar_lt (k : List UInt8) (s : ByteArray) : dscalar k s < Chart.Q := by rw [Q_eq]; exact scalarOf_lt _ _
theorem grp_one : Grp 1 := by
  refine ⟨Nat.le_refl _, by rw [PP_eq]; decide, ?_⟩
  rw [Nat.one_pow, PP_eq]

/-- A capsule built of its parts. -/
def capL (A B : Int) (c : List Value) : List Value := .int .i64 A :: .int .i64 B :: c
theorem capL_eq (A B : Int) (o : List UInt8) : capL A B (bytesV o) = capV A B o := rfl
set_option maxRecDepth 20000 in
theorem build_cap32 (A B : Int) (x0 x1 x2 x3 x4 x5 x6 x7 x8 x9 x10 x11 x12 x13 x14 x15 x16 x17 x18 x19 x20 x21 x22 x23 x24 x25 x26 x27 x28 x29 x30 x31 : Value) (w : World) :
    (Instr.build 25 #[(0, .int .i64 A), (1, .int .i64 B), (2, .agg #[x0, x1, x2, x3, x4, x5, x6, x7, x8, x9, x10, x11, x12, x13, x14, x15, x16, x17, x18, x19, x20, x21, x22, x23, x24, x25, x26, x27, x28, x29, x30, x31])]).run Tryz.prog w = .ok (.agg #[.int .i64 A, .int .i64 B, x0, x1, x2, x3, x4, x5, x6, x7, x8, x9, x10, x11, x12, x13, x14, x15, x16, x17, x18, x19, x20, x21, x22, x23, x24, x25, x26, x27, x28, x29, x30, x31]) w := by
  kernel_rfl
/-- The making of a capsule, which stands still in a walk till its parts are known. -/
def capBuild (parts : Array (Nat × Value)) : Sem Value := Instr.build 25 parts
@[go_sem ↓ high] theorem build_cap_eq (parts : Array (Nat × Value)) : Instr.build 25 parts = capBuild parts := rfl
@[go_sem] theorem run_build_cap (A B : Int) (c : List Value) (h : c.length = 32) (w : World) :
    (capBuild #[(0, .int .i64 A), (1, .int .i64 B), (2, .agg c.toArray)]).run Tryz.prog w = .ok (.agg (capL A B c).toArray) w := by
  match c, h with
  | [x0, x1, x2, x3, x4, x5, x6, x7, x8, x9, x10, x11, x12, x13, x14, x15, x16, x17, x18, x19, x20, x21, x22, x23, x24, x25, x26, x27, x28, x29, x30, x31], _ => exact build_cap32 A B x0 x1 x2 x3 x4 x5 x6 x7 x8 x9 x10 x11 x12 x13 x14 x15 x16 x17 x18 x19 x20 x21 x22 x23 x24 x25 x26 x27 x28 x29 x30 x31 w

theorem lock2_any (y r : Nat) (hy : Grp y) (hr : r < Chart.Q) (bp br : Nat) (Tp Tr : TypeId) (w : World) (hp : RowIs w bp Tp [.int .i64 y]) (hq : RowIs w br Tr [.int .i64 r]) :
    Calls Tryz.prog 18 #[.pointer (some ⟨bp, 0, none⟩), .pointer (some ⟨br, 0, none⟩)] w fun e w' => e = .returned (.int .i64 ((y ^ r % PP : Nat) : Int)) ∧ Below w.heap.size w w' := by
  have C := Lib.hid (gexp_ok y r hy hr w)
  obtain ⟨v, hv⟩ : ∃ v, v = y ^ r % PP := ⟨_, rfl⟩
  rw [← hv] at C ⊢
  have c0 := (hp.cell 0).trans (show _ = some (Value.int .i64 (y : Int)) from rfl)
  have c1 := (hq.cell 0).trans (show _ = some (Value.int .i64 (r : Int)) from rfl)
  clear hv hy hr hp hq
  go_enter Tryz.func18, Tryz.ntmps18
  go_wp2_with fail
  refine C.out.mono ?_
  rintro e w1 ⟨rfl, hB1⟩
  go_wp2_with fail
  refine (must_ok _ _).mono ?_
  rintro e w2 ⟨rfl, rfl⟩
  go_wp2_with fail
  go_ret
  exact ⟨rfl, hB1⟩

set_option maxRecDepth 20000 in
theorem lock3_any (seed : List UInt8) (hs : seed.length = 32) (z : Nat) (hz : Grp z) (bs : Nat) (w : World) (hr : RowIs w bs 23 (seed.map u8v)) (hl : Laid w) :
    Calls Tryz.prog 21 #[.int .i64 z, .pointer (some ⟨bs, 0, none⟩)] w fun e w' => e = .returned (.int .i64 ((Chart.E (lockS seed) * z % PP : Nat) : Int)) ∧ Below w.heap.size w w' := by
  have C1 := Lib.hid (dscalar_any seed hs mask_ (by decide) w hl)
  have C2 := Lib.hid (gbase_ok (lockS seed) (dscalar_lt _ _))
  have C3 := Lib.hid (gmul_ok (Chart.E (lockS seed)) z (Chart.E_elem _) hz)
  obtain ⟨g, hg⟩ : ∃ g, g = Chart.E (lockS seed) := ⟨_, rfl⟩
  have hg' : 4 ^ lockS seed % PP = g := hg.symm
  rw [hg'] at C2
  rw [← hg] at C3 ⊢
  obtain ⟨s, hs'⟩ : ∃ s, s = lockS seed := ⟨_, rfl⟩
  have hs2 : dscalar seed mask_ = s := hs'.symm
  rw [hs2] at C1
  rw [← hs'] at C2
  obtain ⟨v, hv⟩ : ∃ v, v = g * z % PP := ⟨_, rfl⟩
  rw [← hv] at C3 ⊢
  have E1 := hr.loads (P := Tryz.prog) 32 (by rw [List.length_map, hs])
  obtain ⟨d, hd⟩ : ∃ d, d = seed.map u8v := ⟨_, rfl⟩
  rw [← hd] at C1 E1
  clear hg hg' hs' hs2 hv hz hr hl hd
  go_enter Tryz.func21, Tryz.ntmps21
  go_wp2_with fail
  refine C1.out.mono ?_
  rintro e w1 ⟨rfl, hB1⟩
  go_wp2_with fail
  refine (C2.out _).mono ?_
  rintro e w2 ⟨rfl, hB2⟩
  go_wp2_with fail
  refine (must_ok _ _).mono ?_
  rintro e w3 ⟨rfl, rfl⟩
  go_wp2_with fail
  refine (C3.out _).mono ?_
  rintro e w3 ⟨rfl, hB3⟩
  go_wp2_with fail
  refine (must_ok _ _).mono ?_
  rintro e w4 ⟨rfl, rfl⟩
  go_wp2_with fail
  go_ret
  exact ⟨rfl, hB1.trans ((hB2.trans (hB3.mono hB2.size)).mono hB1.size)⟩
end Go.Proofs.YtejjincnghmbbaaGreatDoor
