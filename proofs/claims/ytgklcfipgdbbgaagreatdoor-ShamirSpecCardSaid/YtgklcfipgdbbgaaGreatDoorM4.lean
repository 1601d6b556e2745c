/- SHA-256 in plain Lean, on lists of bytes and words of 32 bits. No program is in sight. -/
import Derived.Lib.Mul64
import Derived.Laws.Bits64b
import Derived.Deep.QuietTactic
import Derived.BigQuiet
import Derived.Lib.Hide
import Derived.StillTailTactics
import Derived.Deep.CutBlock
import Derived.Deep.DeepCutAuto
import Derived.Test.YtgklcfipgdbbgaaGreatDoorM2
import Derived.Test.YtgklcfipgdbbgaaGreatDoorM3
namespace Chart

abbrev Word := BitVec 32

def ror (x : Word) (n : Nat) : Word := x >>> n ||| x <<< (32 - n)

def kList : List Nat := [
  0x428a2f98, 0x71374491, 0xb5c0fbcf, 0xe9b5dba5, 0x3956c25b, 0x59f111f1, 0x923f82a4, 0xab1c5ed5,
  0xd807aa98, 0x12835b01, 0x243185be, 0x550c7dc3, 0x72be5d74, 0x80deb1fe, 0x9bdc06a7, 0xc19bf174,
  0xe49b69c1, 0xefbe4786, 0x0fc19dc6, 0x240ca1cc, 0x2de92c6f, 0x4a7484aa, 0x5cb0a9dc, 0x76f988da,
  0x983e5152, 0xa831c66d, 0xb00327c8, 0xbf597fc7, 0xc6e00bf3, 0xd5a79147, 0x06ca6351, 0x14292967,
  0x27b70a85, 0x2e1b2138, 0x4d2c6dfc, 0x53380d13, 0x650a7354, 0x766a0abb, 0x81c2c92e, 0x92722c85,
  0xa2bfe8a1, 0xa81a664b, 0xc24b8b70, 0xc76c51a3, 0xd192e819, 0xd6990624, 0xf40e3585, 0x106aa070,
  0x19a4c116, 0x1e376c08, 0x2748774c, 0x34b0bcb5, 0x391c0cb3, 0x4ed8aa4a, 0x5b9cca4f, 0x682e6ff3,
  0x748f82ee, 0x78a5636f, 0x84c87814, 0x8cc70208, 0x90befffa, 0xa4506ceb, 0xbef9a3f7, 0xc67178f2]

def kAt (t : Nat) : Word := BitVec.ofNat 32 (kList.getD t 0)

def be32 (a b c d : UInt8) : Word := ((a.toBitVec.setWidth 32 <<< 24 ||| b.toBitVec.setWidth 32 <<< 16) ||| c.toBitVec.setWidth 32 <<< 8) ||| d.toBitVec.setWidth 32

/-- The word at place i of some bytes. -/
def wordAt (l : List UInt8) (i : Nat) : Word := be32 (l.getD i 0) (l.getD (i + 1) 0) (l.getD (i + 2) 0) (l.getD (i + 3) 0)

def sig0 (x : Word) : Word := (ror x 7 ^^^ ror x 18) ^^^ x >>> 3
def sig1 (x : Word) : Word := (ror x 17 ^^^ ror x 19) ^^^ x >>> 10

/-- The schedule of a block: the first n words. -/
def sched (blk : List UInt8) : Nat → List Word
  | 0 => []
  | t + 1 =>
    let w := sched blk t
    w ++ [if t < 16 then wordAt blk (4 * t) else ((w.getD (t - 16) 0 + sig0 (w.getD (t - 15) 0)) + w.getD (t - 7) 0) + sig1 (w.getD (t - 2) 0)]

theorem sched_length (blk : List UInt8) (t : Nat) : (sched blk t).length = t := by
  induction t with
  | zero => rfl
  | succ t ih => simp [sched, ih]

structure St where
  a : Word
  b : Word
  c : Word
  d : Word
  e : Word
  f : Word
  g : Word
  h : Word

def St.list (s : St) : List Word := [s.a, s.b, s.c, s.d, s.e, s.f, s.g, s.h]

def big1 (e : Word) : Word := (ror e 6 ^^^ ror e 11) ^^^ ror e 25
def big0 (a : Word) : Word := (ror a 2 ^^^ ror a 13) ^^^ ror a 22
def ch (e f g : Word) : Word := (e &&& f) ^^^ (~~~e &&& g)
def maj (a b c : Word) : Word := ((a &&& b) ^^^ (a &&& c)) ^^^ (b &&& c)

theorem ch_other (e f g : Word) : g ^^^ (e &&& (f ^^^ g)) = ch e f g := by
  apply BitVec.eq_of_getLsbD_eq
  intro i hi
  simp only [ch, BitVec.getLsbD_xor, BitVec.getLsbD_and, BitVec.getLsbD_not, hi, decide_true, Bool.true_and]
  cases e.getLsbD i <;> cases f.getLsbD i <;> cases g.getLsbD i <;> rfl

theorem maj_other (a b c : Word) : (a &&& b) ||| (c &&& (a ||| b)) = maj a b c := by
  apply BitVec.eq_of_getLsbD_eq
  intro i hi
  simp only [maj, BitVec.getLsbD_xor, BitVec.getLsbD_and, BitVec.getLsbD_or]
  cases a.getLsbD i <;> cases b.getLsbD i <;> cases c.getLsbD i <;> rfl

def t1 (s : St) (k w : Word) : Word := (((s.h + big1 s.e) + ch s.e s.f s.g) + k) + w
def t2 (s : St) : Word := big0 s.a + maj s.a s.b s.c

def stepS (s : St) (k w : Word) : St :=
  { a := t1 s k w + t2 s, b := s.a, c := s.b, d := s.c, e := s.d + t1 s k w, f := s.e, g := s.f, h := s.g }

/-- The state after n rounds. -/
def rounds (blk : List UInt8) (s : St) : Nat → St
  | 0 => s
  | t + 1 => stepS (rounds blk s t) (kAt t) ((sched blk 64).getD t 0)

def addS (s v : St) : St := { a := s.a + v.a, b := s.b + v.b, c := s.c + v.c, d := s.d + v.d, e := s.e + v.e, f := s.f + v.f, g := s.g + v.g, h := s.h + v.h }

def blockS (s : St) (blk : List UInt8) : St := addS s (rounds blk s 64)

def start : St := { a := 0x6a09e667, b := 0xbb67ae85, c := 0x3c6ef372, d := 0xa54ff53a, e := 0x510e527f, f := 0x9b05688c, g := 0x1f83d9ab, h := 0x5be0cd19 }

/-- The state after n blocks of some bytes. -/
def blocks (l : List UInt8) : Nat → St
  | 0 => start
  | n + 1 => blockS (blocks l n) ((l.drop (64 * n)).take 64)

def byteOf (n : Nat) (i : Nat) : UInt8 := UInt8.ofNat (n >>> (8 * i))

/-- A number as k bytes, the most significant one first. -/
def beBytes (n : Nat) : Nat → List UInt8
  | 0 => []
  | k + 1 => byteOf n k :: beBytes n k

/-- Zero bytes behind n bytes and the byte 80 (hexadecimal). -/
def zerosFor (n : Nat) : Nat := (119 - n % 64) % 64

def padded (l : List UInt8) : List UInt8 := l ++ [0x80] ++ List.replicate (zerosFor l.length) 0 ++ beBytes (8 * l.length % 2 ^ 64) 8

theorem beBytes_length (n k : Nat) : (beBytes n k).length = k := by
  induction k with
  | zero => rfl
  | succ k ih => simp [beBytes, ih]

theorem padded_length (l : List UInt8) : (padded l).length % 64 = 0 := by
  simp only [padded, List.length_append, List.length_replicate, List.length_cons, List.length_nil, beBytes_length, zerosFor]
  omega

def wordBytes (x : Word) : List UInt8 := beBytes x.toNat 4

def St.bytes (s : St) : List UInt8 := s.list.flatMap wordBytes

def sha (l : List UInt8) : List UInt8 := (blocks (padded l) ((padded l).length / 64)).bytes

theorem sha_length (l : List UInt8) : (sha l).length = 32 := by
  simp [sha, St.bytes, St.list, wordBytes, beBytes_length]

def tagged (tag l : List UInt8) : List UInt8 := sha (sha tag ++ l)

theorem tagged_length (tag l : List UInt8) : (tagged tag l).length = 32 := sha_length _

end Chart

/- Contracts of math/bits: Mul64, Len64, Len, LeadingZeros64, RotateLeft32. -/
namespace Go.Proofs.YtgklcfipgdbbgaaGreatDoor
open Go.RowKit
namespace Bits64
theorem maskN (a : Nat) (ha : a < 18446744073709551616) : bits .and .u64 (a : Int) 4294967295 = ((a % 4294967296 : Nat) : Int) := by
  have h := bits_and_u64_nat a 4294967295 ha (by omega)
  have e : a &&& 4294967295 = a % 4294967296 := Nat.and_two_pow_sub_one_eq_mod a 32
  rw [e] at h
  exact h
theorem divN (a : Nat) : (a : Int) / 4294967296 = ((a / 4294967296 : Nat) : Int) := by omega
theorem mulN (a b : Nat) : (a : Int) * (b : Int) = ((a * b : Nat) : Int) := (Int.natCast_mul a b).symm
theorem addN (a b : Nat) : (a : Int) + (b : Int) = ((a + b : Nat) : Int) := (Int.natCast_add a b).symm
theorem wrapN (a : Nat) (ha : a < 18446744073709551616) : IntKind.u64.wrap (a : Int) = (a : Int) := by rw [IntKind.wrap_u64]; omega
theorem wrapM (a : Nat) : IntKind.u64.wrap (a : Int) = ((a % 18446744073709551616 : Nat) : Int) := by rw [IntKind.wrap_u64]; omega
end Bits64

set_option maxHeartbeats 1000000 in
theorem mul64_any (x y : Nat) (hx : x < 18446744073709551616) (hy : y < 18446744073709551616) (w : World) :
    Calls Tryz.prog 61 #[.int .u64 x, .int .u64 y] w fun e w' => e = .returned (.tuple #[.int .u64 ((x * y / 18446744073709551616 : Nat) : Int), .int .u64 ((x * y % 18446744073709551616 : Nat) : Int)]) ∧ w = w' := by
  obtain ⟨bd, bt, bw, hhi⟩ := Lib.mul64_hi x y hx hy
  have ba := Lib.half_mul_le (a := x / 4294967296) (b := y / 4294967296) (by omega) (by omega)
  have bb := Lib.half_mul_le (a := x / 4294967296) (b := y % 4294967296) (by omega) (by omega)
  have bc := Lib.half_mul_le (a := x % 4294967296) (b := y / 4294967296) (by omega) (by omega)
  have ba' : x / 4294967296 * (y / 4294967296) < 18446744073709551616 := by omega
  have bb' : x / 4294967296 * (y % 4294967296) < 18446744073709551616 := by omega
  have bc' : x % 4294967296 * (y / 4294967296) < 18446744073709551616 := by omega
  have bh1 : x / 4294967296 * (y / 4294967296) + (x / 4294967296 * (y % 4294967296) + x % 4294967296 * (y % 4294967296) / 4294967296) / 4294967296 < 18446744073709551616 := by omega
  have bh : x / 4294967296 * (y / 4294967296) + (x / 4294967296 * (y % 4294967296) + x % 4294967296 * (y % 4294967296) / 4294967296) / 4294967296 + ((x / 4294967296 * (y % 4294967296) + x % 4294967296 * (y % 4294967296) / 4294967296) % 4294967296 + x % 4294967296 * (y / 4294967296)) / 4294967296 < 18446744073709551616 := by omega
  go_enter Tryz.func61, Tryz.ntmps61
  go_wp2
  simp only [Bits64.maskN x hx, Bits64.maskN y hy, Bits64.divN, Bits64.mulN, Bits64.addN, Bits64.wrapN _ bd, Bits64.wrapN _ bb', Bits64.wrapN _ bt, Bits64.maskN _ bt, Bits64.wrapN _ bc', Bits64.wrapN _ bw, Bits64.wrapN _ ba', Bits64.wrapN _ bh1, Bits64.wrapN _ bh, Bits64.wrapM (x * y)]
  rw [hhi]
  go_ret2
  exact ⟨rfl, rfl⟩

theorem bitLenAux_spec : ∀ (f x : Nat), x < 2 ^ f → x < 2 ^ Lib.bitLenAux f x ∧ (x ≠ 0 → 2 ^ Lib.bitLenAux f x ≤ 2 * x) ∧ Lib.bitLenAux f x ≤ f
  | 0, x, h => by
    have : x = 0 := by simpa using h
    subst this
    exact ⟨by simp [Lib.bitLenAux], fun h => absurd rfl h, Nat.le_refl _⟩
  | f + 1, x, h => by
    obtain ⟨h1, h2, h3⟩ := bitLenAux_spec f (x / 2) (by rw [Nat.pow_succ] at h; omega)
    simp only [Lib.bitLenAux]
    by_cases h0 : x = 0
    · subst h0; simp
    · rw [if_neg h0, Nat.pow_add, Nat.pow_one]
      refine ⟨by omega, fun _ => ?_, by omega⟩
      by_cases hh : x / 2 = 0
      · rw [hh]
        have e : Lib.bitLenAux f 0 = 0 := by cases f <;> simp [Lib.bitLenAux]
        rw [e]
        omega
      · have := h2 hh
        omega

theorem bitLen_lt (x : Nat) (h : x < 2 ^ 64) : x < 2 ^ Lib.bitLen x := (bitLenAux_spec 64 x h).1
theorem bitLen_ge (x : Nat) (h : x < 2 ^ 64) (h0 : x ≠ 0) : 2 ^ Lib.bitLen x ≤ 2 * x := (bitLenAux_spec 64 x h).2.1 h0
theorem bitLen_le (x : Nat) (h : x < 2 ^ 64) : Lib.bitLen x ≤ 64 := (bitLenAux_spec 64 x h).2.2

theorem len_any (x : Int) (h0 : 0 ≤ x) (h1 : x ≤ 18446744073709551615) (w : World) :
    Calls Tryz.prog 112 #[.int .u64 x] w fun e w' => e = .returned (.int .i64 (Lib.bitLen x.toNat)) ∧ w' = w := by
  go_enter Tryz.func112, Tryz.ntmps112
  go_wp2_with (go_at_call 92; refine (len64_any _ h0 h1 _).mono ?_; rintro e w' ⟨rfl, rfl⟩)
  go_ret
  exact ⟨rfl, rfl⟩

theorem leading_any (x : Nat) (h1 : x ≤ 18446744073709551615) (w : World) :
    Calls Tryz.prog 83 #[.int .u64 x] w fun e w' => e = .returned (.int .i64 ((64 - Lib.bitLen x : Nat) : Int)) ∧ w' = w := by
  have hl := bitLen_le x (by omega)
  have hl' : (0 : Int) ≤ 64 - (Lib.bitLen x : Int) := by omega
  go_enter Tryz.func83, Tryz.ntmps83
  go_wp2_with (go_at_call 92; refine (len64_any _ (by omega) (by omega) _).mono ?_; rintro e w' ⟨rfl, rfl⟩)
  go_ret
  exact ⟨ret_int (by omega), rfl⟩

/-- What RotateLeft32 returns. -/
def rotI (x : BitVec 32) (k : Int) : BitVec 32 := x <<< (k % 32).toNat ||| x >>> (32 - k % 32).toNat
theorem rotI_neg (x : BitVec 32) (n : Nat) (h0 : 0 < n) (h1 : n < 32) : rotI x (-(n : Int)) = Chart.ror x n := by
  have e1 : (-(n : Int)) % 32 = 32 - (n : Int) := by omega
  unfold rotI Chart.ror
  rw [e1, BitVec.or_comm]
  congr 2
  · omega
  · omega
theorem rotI_pos (x : BitVec 32) (n : Nat) (h0 : 0 < n) (h1 : n < 32) : rotI x (n : Int) = Chart.ror x (32 - n) := by
  have e1 : (n : Int) % 32 = (n : Int) := by omega
  unfold rotI Chart.ror
  rw [e1, BitVec.or_comm, show ((n : Int)).toNat = 32 - (32 - n) by omega, show (32 - (n : Int)).toNat = 32 - n by omega]
theorem rot_count (k : Int) : bits .and .u64 (IntKind.u64.wrap k) 31 = k % 32 := by
  rw [IntKind.wrap_u64]
  obtain ⟨a, ha⟩ := Int.eq_ofNat_of_zero_le (show 0 ≤ k % 18446744073709551616 by omega)
  rw [ha]
  have h := bits_and_u64_nat a 31 (by omega) (by omega)
  have e : a &&& 31 = a % 32 := Nat.and_two_pow_sub_one_eq_mod a 5
  rw [e] at h
  rw [show (31 : Int) = ((31 : Nat) : Int) from rfl, h]
  omega
theorem rot_any (x : BitVec 32) (k : Int) (w : World) :
    Calls Tryz.prog 101 #[.int .u32 (tn x), .int .i64 k] w fun e w' => e = .returned (.int .u32 (tn (rotI x k))) ∧ w = w' := by
  have e := rot_count k
  have h0 : 0 ≤ k % 32 := by omega
  have h1 : k % 32 < 32 := by omega
  have h2 : IntKind.u64.wrap (32 - k % 32) = 32 - k % 32 := by rw [IntKind.wrap_u64]; omega
  have h3 : k % 32 ≤ 32 := by omega
  go_enter Tryz.func101, Tryz.ntmps101
  go_wp2
  go_ret
  exact ⟨rfl, rfl⟩

end Go.Proofs.YtgklcfipgdbbgaaGreatDoor

/- digest.word, digest.rotated, digest.put. -/
namespace Go.Proofs.YtgklcfipgdbbgaaGreatDoor
open Go.RowKit

/-- Bytes that lie in memory from a place on. -/
def BytesAt (w : World) (g off : Nat) (l : List UInt8) : Prop := ∀ i (h : i < l.length), w.cell? ⟨g, off + i, none⟩ = some (u8v l[i])

theorem BytesAt.below {B : Nat} {w w1 : World} {g off : Nat} {l : List UInt8} (h : BytesAt w g off l) (hb : Below B w w1) (hg : g < B) : BytesAt w1 g off l :=
  fun i hi => ((bcell hb).1 _ _ hg).trans (h i hi)

def wfold (l : List UInt8) : BitVec 32 := l.foldl (fun n c => n <<< 8 ||| c.toBitVec.setWidth 32) 0

theorem wfold_four (a b c d : UInt8) : wfold [a, b, c, d] = Chart.be32 a b c d := by
  unfold wfold Chart.be32
  simp only [List.foldl_cons, List.foldl_nil]
  simp only [BitVec.shiftLeft_or_distrib, ← BitVec.shiftLeft_add]
  simp

theorem wfold_take (l : List UInt8) (k : Nat) (h : k < l.length) : wfold (l.take (k + 1)) = wfold (l.take k) <<< 8 ||| l[k].toBitVec.setWidth 32 := by
  rw [List.take_succ_eq_append_getElem h]
  unfold wfold
  rw [List.foldl_append]
  rfl

set_option maxHeartbeats 1000000 in
theorem word_any (l : List UInt8) (hl : l.length = 4) (g off n cap : Nat) (hn : 4 ≤ n) (hc : n ≤ cap) (w : World) (hb : BytesAt w g off l) :
    Calls Tryz.prog 100 #[.slice (some ⟨g, off, none⟩) n cap] w fun e w' => e = .returned (.int .u32 (tn (wfold l))) ∧ w = w' := by
  have h1 : (4 : Int) ≤ (cap : Int) := by omega
  have h2 : ¬ cap < 4 := by omega
  have Hl := Lib.hid hl; clear hl
  go_enter Tryz.func100, Tryz.ntmps100
  go_wp2_with fail
  go_loop [2, 8] (fun v i => ∃ k : Nat, k ≤ 4 ∧ i = .int .i64 k ∧ v = .int .u32 (tn (wfold (l.take k)))) (fun _ i => 4 - (intOf i).toNat)
  case atStart => exact ⟨0, by omega, rfl, rfl⟩
  case round =>
    obtain ⟨k, hk, rfl, rfl⟩ := hrel
    by_cases hlt : k < 4
    · have hlt' : k < l.length := by have := Hl.out; omega
      have hcell := hb k hlt'
      have hs := Lib.hid (wfold_take l k hlt')
      generalize l[k] = c at *
      go_wp2_with fail
      go_round
      case rel => exact ⟨k + 1, by omega, by go_num, by rw [hs.out]⟩
      case measure => simp [intOf] <;> omega
    · go_wp2_with fail
      go_ret
      exact ⟨by
        have e : l.take k = l := List.take_of_length_le (by have := Hl.out; omega)
        rw [e]; rfl, rfl⟩

/-- What 'rotated' returns. -/
def rot3 (x : BitVec 32) (a b c : Int) : BitVec 32 := (rotI x (wrap64 (-a)) ^^^ rotI x (wrap64 (-b))) ^^^ rotI x (wrap64 (-c))
theorem rot3_one (x : BitVec 32) : rot3 x 6 11 25 = Chart.big1 x := by
  unfold rot3
  rw [show wrap64 (-6) = -((6 : Nat) : Int) by decide +kernel, show wrap64 (-11) = -((11 : Nat) : Int) by decide +kernel, show wrap64 (-25) = -((25 : Nat) : Int) by decide +kernel]
  rw [rotI_neg x 6 (by decide) (by decide), rotI_neg x 11 (by decide) (by decide), rotI_neg x 25 (by decide) (by decide)]
  rfl
theorem rot3_zero (x : BitVec 32) : rot3 x 2 13 22 = Chart.big0 x := by
  unfold rot3
  rw [show wrap64 (-2) = -((2 : Nat) : Int) by decide +kernel, show wrap64 (-13) = -((13 : Nat) : Int) by decide +kernel, show wrap64 (-22) = -((22 : Nat) : Int) by decide +kernel]
  rw [rotI_neg x 2 (by decide) (by decide), rotI_neg x 13 (by decide) (by decide), rotI_neg x 22 (by decide) (by decide)]
  rfl
theorem rotated_any (x : BitVec 32) (a b c : Int) (w : World) :
    Calls Tryz.prog 102 #[.int .u32 (tn x), .int .i64 a, .int .i64 b, .int .i64 c] w fun e w' => e = .returned (.int .u32 (tn (rot3 x a b c))) ∧ w = w' := by
  go_enter Tryz.func102, Tryz.ntmps102
  go_wp2_with fail
  refine (rot_any x _ w).mono ?_
  rintro e w1 ⟨rfl, rfl⟩
  go_wp2_with fail
  refine (rot_any x _ w).mono ?_
  rintro e w1 ⟨rfl, rfl⟩
  go_wp2_with fail
  refine (rot_any x _ w).mono ?_
  rintro e w1 ⟨rfl, rfl⟩
  go_wp2_with fail
  go_ret
  exact ⟨rfl, rfl⟩

/-- The cells of a row after k rounds of 'put' into the L cells from off on. -/
def putC (n off L : Nat) (cs : List Value) : Nat → List Value
  | 0 => cs
  | k + 1 => (putC n off L cs k).set (off + (L - 1 - k)) (u8v (Chart.byteOf n k))

theorem putC_length (n off L : Nat) (cs : List Value) (k : Nat) : (putC n off L cs k).length = cs.length := by
  induction k with
  | zero => rfl
  | succ k ih => simp [putC, ih]

theorem putC_get (n off L : Nat) (cs : List Value) (hL : off + L ≤ cs.length) (j : Nat) : ∀ k, k ≤ L →
    (putC n off L cs k)[j]? = if off + (L - k) ≤ j ∧ j < off + L then some (u8v (Chart.byteOf n (off + L - 1 - j))) else cs[j]?
  | 0, _ => by simp [putC]; omega
  | k + 1, hk => by
    have ih := putC_get n off L cs hL j k (by omega)
    simp only [putC]
    rw [List.getElem?_set]
    by_cases hj : off + (L - 1 - k) = j
    · rw [if_pos hj, if_pos (by rw [putC_length]; omega), if_pos (by omega)]
      congr 4
      omega
    · rw [if_neg hj, ih]
      by_cases h1 : off + (L - k) ≤ j ∧ j < off + L
      · rw [if_pos h1, if_pos (by omega)]
      · rw [if_neg h1, if_neg (by omega)]

/-- Some cells of a row replaced. -/
def splice (cs : List Value) (off : Nat) (vs : List Value) : List Value := cs.take off ++ vs ++ cs.drop (off + vs.length)

theorem splice_get (cs : List Value) (off : Nat) (vs : List Value) (h : off + vs.length ≤ cs.length) (j : Nat) :
    (splice cs off vs)[j]? = if off ≤ j ∧ j < off + vs.length then vs[j - off]? else cs[j]? := by
  unfold splice
  by_cases h1 : j < off
  · rw [if_neg (by omega), List.append_assoc, List.getElem?_append_left (by simp; omega), List.getElem?_take_of_lt h1]
  · by_cases h2 : j < off + vs.length
    · rw [if_pos (by omega), List.getElem?_append_left (by simp; omega), List.getElem?_append_right (by simp; omega)]
      congr 1
      simp
      omega
    · rw [if_neg (by omega), List.getElem?_append_right (by simp; omega), List.getElem?_drop]
      congr 1
      simp
      omega

theorem splice_length (cs : List Value) (off : Nat) (vs : List Value) (h : off + vs.length ≤ cs.length) : (splice cs off vs).length = cs.length := by
  simp [splice]
  omega

theorem beBytes_get (n : Nat) : ∀ (k i : Nat), i < k → (Chart.beBytes n k)[i]? = some (Chart.byteOf n (k - 1 - i))
  | 0, i, h => by omega
  | k + 1, 0, _ => by simp [Chart.beBytes]
  | k + 1, i + 1, h => by
    simp only [Chart.beBytes, List.getElem?_cons_succ]
    rw [beBytes_get n k i (by omega)]
    congr 2
    omega

theorem putC_all (n off L : Nat) (cs : List Value) (hL : off + L ≤ cs.length) : putC n off L cs L = splice cs off ((Chart.beBytes n L).map u8v) := by
  apply List.ext_getElem?
  intro j
  have hlen : ((Chart.beBytes n L).map u8v).length = L := by simp [Chart.beBytes_length]
  rw [putC_get n off L cs hL j L (Nat.le_refl _), splice_get _ _ _ (by rw [hlen]; exact hL), hlen]
  by_cases h : off ≤ j ∧ j < off + L
  · rw [if_pos (by omega), if_pos h, List.getElem?_map, beBytes_get n L _ (by omega)]
    simp only [Option.map_some]
    congr 3
    omega
  · rw [if_neg (by omega), if_neg h]

/-- What 'put' leaves. -/
def Put (g : Nat) (T : TypeId) (cs : List Value) (w : World) (e : Ending) (w' : World) : Prop := e = .returned (.tuple #[]) ∧ Apart g w w' ∧ RowIs w' g T cs

theorem byte_of (n k : Nat) : IntKind.u8.wrap ((n : Int) / 2 ^ (8 * k)) = bn (Chart.byteOf n k) := by
  have e : (n : Int) / 2 ^ (8 * k) = ((n / 2 ^ (8 * k) : Nat) : Int) := by simp
  rw [e, IntKind.wrap_u8']
  unfold bn Chart.byteOf
  rw [Nat.shiftRight_eq_div_pow, UInt8.toNat_ofNat']
  generalize n / 2 ^ (8 * k) = m
  omega

set_option maxHeartbeats 1000000 in
theorem put_any (n : Nat) (g off L cap : Nat) (hL : L ≤ 8) (hcap : L ≤ cap) (T : TypeId) (cs : List Value) (hcs : off + L ≤ cs.length) (w : World) (hr : RowIs w g T cs) :
    Calls Tryz.prog 89 #[.slice (some ⟨g, off, none⟩) L cap, .int .u64 n] w (Put g T (splice cs off ((Chart.beBytes n L).map u8v)) w) := by
  rw [← putC_all n off L cs hcs]
  have hlen := putC_length n off L cs
  have Hlen := Lib.hid hlen; clear hlen
  have Hcs := Lib.hid hcs; clear hcs
  go_enter Tryz.func89, Tryz.ntmps89
  go_wp2_with fail
  go_loopw [7] (fun i wr => ∃ k : Nat, k ≤ L ∧ i = .int .i64 k ∧ Hid (RowIs wr g T (putC n off L cs k)) ∧ Hid (Apart g w wr)) (fun i _ => L - (intOf i).toNat)
  case atStart => exact ⟨0, by omega, rfl, Lib.hid hr, Lib.hid (Apart.refl g w)⟩
  case round =>
    obtain ⟨k, hk, rfl, hR, hA⟩ := hrel
    by_cases hlt : k < L
    · have hcell : ∃ v, wr.cell? ⟨g, off + (L - 1 - k), none⟩ = some v := by
        rw [hR.out.cell]
        exact ⟨_, List.getElem?_eq_getElem (by have := Hlen.out k; have := Hcs.out; omega)⟩
      obtain ⟨v, hcell⟩ := hcell
      have hfr := hR.out.frozen (off + (L - 1 - k))
      have e1 := byte_of n k
      have e2 : IntKind.i64.wrap (8 * (k : Int)) = 8 * (k : Int) := wrap_i64_small' (by omega) (by omega)
      go_wp2_with fail
      refine ⟨⟨k + 1, by omega, by go_num, Lib.hid ?_, Lib.hid (hA.out.trans (Apart.setCell _ _ _ _))⟩, by simp [intOf]; omega⟩
      exact hR.out.set _ _
    · have e : k = L := by omega
      subst e
      go_wp2_with fail
      go_end0
      exact ⟨rfl, hA.out, hR.out⟩
end Go.Proofs.YtgklcfipgdbbgaaGreatDoor

/- digest.absorb: one block of SHA-256. -/
namespace Go.Proofs.YtgklcfipgdbbgaaGreatDoor
open Go.RowKit

/-- Words as the cells of a row. -/
abbrev words (l : List (BitVec 32)) : List Value := l.map u32v

/-- The words that stand in w after t of them were reckoned. -/
def schedZ (blk : List UInt8) (t : Nat) : List (BitVec 32) := Chart.sched blk t ++ List.replicate (64 - t) 0

theorem schedZ_length (blk : List UInt8) (t : Nat) (h : t ≤ 64) : (schedZ blk t).length = 64 := by
  simp [schedZ, Chart.sched_length]; omega
theorem schedZ_get (blk : List UInt8) (t i : Nat) (h : i < t) : (words (schedZ blk t))[i]? = some (.int .u32 (tn ((Chart.sched blk t).getD i 0))) := by
  unfold schedZ words
  have hl := Chart.sched_length blk t
  rw [List.getElem?_map, List.getElem?_append_left (by omega), List.getElem?_eq_getElem (by omega)]
  simp [List.getElem?_eq_getElem (show i < (Chart.sched blk t).length by omega)]
theorem schedZ_at (blk : List UInt8) (t : Nat) (h : t < 64) : ∃ v, (words (schedZ blk t))[t]? = some v := by
  refine ⟨_, List.getElem?_eq_getElem ?_⟩
  simp [schedZ_length blk t (by omega)]; omega
theorem schedZ_set (blk : List UInt8) (t : Nat) (h : t < 64) (x : BitVec 32) (hx : Chart.sched blk (t + 1) = Chart.sched blk t ++ [x]) : (words (schedZ blk t)).set t (u32v x) = words (schedZ blk (t + 1)) := by
  unfold schedZ words
  rw [hx, ← List.map_set]
  congr 1
  have hl := Chart.sched_length blk t
  rw [List.set_append_right _ _ (by omega), hl, Nat.sub_self]
  obtain ⟨m, hm⟩ : ∃ m, 64 - t = m + 1 := ⟨63 - t, by omega⟩
  rw [hm, List.replicate_succ, List.set_cons_zero, show 64 - (t + 1) = m by omega]
  simp

theorem wordAt_four (blk : List UInt8) (t : Nat) (h : 4 * t + 4 ≤ blk.length) : wfold ((blk.drop (4 * t)).take 4) = Chart.wordAt blk (4 * t) := by
  have e : (blk.drop (4 * t)).take 4 = [blk.getD (4 * t) 0, blk.getD (4 * t + 1) 0, blk.getD (4 * t + 2) 0, blk.getD (4 * t + 3) 0] := by
    apply List.ext_getElem
    · simp; omega
    · intro i h1 h2
      simp at h2
      rcases i with _ | _ | _ | _ | i
      · simp [List.getElem?_eq_getElem (show 4 * t < blk.length by omega)]
      · simp [List.getElem?_eq_getElem (show 4 * t + 1 < blk.length by omega)]
      · simp [List.getElem?_eq_getElem (show 4 * t + 2 < blk.length by omega)]
      · simp [List.getElem?_eq_getElem (show 4 * t + 3 < blk.length by omega)]
      · omega
  rw [e, wfold_four]
  rfl

theorem BytesAt.part {w : World} {g off : Nat} {l : List UInt8} (h : BytesAt w g off l) (k n : Nat) : BytesAt w g (off + k) ((l.drop k).take n) := by
  intro i hi
  simp at hi
  have := h (k + i) (by omega)
  rw [Nat.add_assoc, this]
  simp

theorem rot_7 (x : BitVec 32) : rotI x (-7) = Chart.ror x 7 := rotI_neg x 7 (by decide) (by decide)
theorem rot_18 (x : BitVec 32) : rotI x (-18) = Chart.ror x 18 := rotI_neg x 18 (by decide) (by decide)
theorem rot_17 (x : BitVec 32) : rotI x (-17) = Chart.ror x 17 := rotI_neg x 17 (by decide) (by decide)
theorem rot_19 (x : BitVec 32) : rotI x (-19) = Chart.ror x 19 := rotI_neg x 19 (by decide) (by decide)

/-- The sums of the first t words, then the others. -/
def mixL (l m : List (BitVec 32)) (t : Nat) : List (BitVec 32) := (l.zipWith (· + ·) m).take t ++ l.drop t

theorem words_get (l : List (BitVec 32)) (t : Nat) (h : t < l.length) : (words l)[t]? = some (.int .u32 (tn (l.getD t 0))) := by
  unfold words
  rw [List.getElem?_map, List.getElem?_eq_getElem h]
  simp [h]
theorem mixL_length (l m : List (BitVec 32)) (t : Nat) (hl : l.length = 8) (hm : m.length = 8) (h : t ≤ 8) : (mixL l m t).length = 8 := by
  simp [mixL, hl, hm]; omega
theorem mixL_get (l m : List (BitVec 32)) (t : Nat) (hl : l.length = 8) (hm : m.length = 8) (h : t < 8) : (words (mixL l m t))[t]? = some (.int .u32 (tn (l.getD t 0))) := by
  rw [words_get _ _ (by rw [mixL_length l m t hl hm (by omega)]; exact h)]
  have : (mixL l m t).getD t 0 = l.getD t 0 := by
    unfold mixL
    rw [List.getD_eq_getElem?_getD, List.getElem?_append_right (by simp [hl, hm]; omega), List.getD_eq_getElem?_getD]
    simp [hl, hm]
    rw [show min t 8 = t by omega]; simp
  rw [this]
theorem mixL_set (l m : List (BitVec 32)) (t : Nat) (hl : l.length = 8) (hm : m.length = 8) (h : t < 8) : (words (mixL l m t)).set t (u32v (l.getD t 0 + m.getD t 0)) = words (mixL l m (t + 1)) := by
  unfold words
  rw [← List.map_set]
  congr 1
  apply List.ext_getElem?
  intro j
  unfold mixL
  rw [List.getElem?_set]
  by_cases hj : t = j
  · subst hj
    have e1 : (l.zipWith (· + ·) m).length = 8 := by simp [hl, hm]
    simp [List.length_append, List.length_take, hl, hm, List.getElem?_append, List.getElem?_zipWith, List.getElem?_eq_getElem (show t < l.length by omega), List.getElem?_eq_getElem (show t < m.length by omega)]
    rw [if_pos (by omega), if_pos (by omega)]
  · simp only [hj, if_false]
    rw [List.getElem?_append, List.getElem?_append]
    simp only [List.length_take, List.length_zipWith, hl, hm]
    rw [show min t (min 8 8) = t by omega, show min (t + 1) (min 8 8) = t + 1 by omega]
    simp only [List.getElem?_take, List.getElem?_drop]
    by_cases hj2 : j < t
    · simp [hj2, show j < t + 1 by omega]
    · simp only [hj2, show ¬ j < t + 1 by omega, if_false]
      congr 1
      omega

theorem RowIs.drew {w : World} {g : Nat} {t : TypeId} {cs : List Value} (h : RowIs w g t cs) : RowIs w.drew g t cs := h

theorem quietNest {P : Program} {f : FuncId} {args : Array Value} {w : World} {q n : Nat} {v : Value}
    (h : Calls P f args (w.drewN (q + n)) fun e w' => e = .returned v ∧ w.drewN (q + n) = w') : Calls P f args (w.drewN (q + n)) fun e w'' => e = .returned v ∧ ∃ m, w'' = w.drewN (q + m) :=
  h.mono fun _ _ ⟨he, hm⟩ => ⟨he, n, hm.symm⟩

theorem stillOf {P : Program} {f : FuncId} {args : Array Value} {w : World} {v : Value} (h : Calls P f args w fun e w' => e = .returned v ∧ w = w') : Calls P f args w fun e w' => e = .returned v ∧ w' = w :=
  h.mono fun _ _ ⟨a, b⟩ => ⟨a, b.symm⟩

set_option maxRecDepth 100000 in
set_option maxHeartbeats 4000000 in
theorem absorb_any (s : Chart.St) (blk : List UInt8) (hblk : blk.length = 64) (T : TypeId) (b g off n cap : Nat) (hn : 64 ≤ n) (hcap : n ≤ cap) (w : World)
    (hs : RowIs w b T (words s.list)) (hb : BytesAt w g off blk) (hgw : g < w.heap.size) (hk : ∀ t, t < 64 → w.cell? ⟨4, t, none⟩ = some (.int .u32 (tn (Chart.kAt t)))) (hkb : 4 < w.heap.size) :
    Calls Tryz.prog 88 #[.pointer (some ⟨b, 0, none⟩), .slice (some ⟨g, off, none⟩) n cap] w (Put b T (words (Chart.blockS s blk).list) w) := by
  have Hblk := Lib.hid hblk; clear hblk
  have Hk := Lib.hid hk; clear hk
  have Hs := Lib.hid hs; clear hs
  have Hb := Lib.hid hb; clear hb
  go_enter Tryz.func88, Tryz.ntmps88
  go_upto_block 0 with fail
  go_cut [14] (fun _ wr => Below w.heap.size w wr ∧ RowIs wr w.heap.size 134 (words (schedZ blk 16)))
  case first =>
    go_wp2_with fail
    go_loopw [14] (fun i wr => ∃ t : Nat, t ≤ 16 ∧ i = .int .i64 t ∧ Hid (RowIs wr w.heap.size 134 (words (schedZ blk t))) ∧ Hid (Below w.heap.size w wr)) (fun i _ => 16 - (intOf i).toNat)
    case atStart => exact ⟨0, by omega, rfl, Lib.hid (RowIs.new w (words (schedZ blk 0)) _), Lib.hid ((Below.refl _ _).alloc (Nat.le_refl _) _)⟩
    case round =>
      obtain ⟨t, ht, rfl, hR, hB⟩ := hrel
      by_cases hlt : t < 16
      · have hbs : BytesAt wr g (off + 4 * t) ((blk.drop (4 * t)).take 4) := (Hb.out.below hB.out hgw).part _ _
        have C := Lib.hid (word_any ((blk.drop (4 * t)).take 4) (by have := Hblk.out; simp; omega) g (off + 4 * t) (n - 4 * t) (cap - 4 * t) (by omega) (by omega) wr hbs)
        have hx := wordAt_four blk t (by have := Hblk.out; omega)
        obtain ⟨v, hv⟩ := schedZ_at blk t (by omega)
        have hcell : wr.cell? ⟨w.heap.size, t, none⟩ = some v := (hR.out.cell t).trans hv
        have hfr := hR.out.frozen t
        have hsx : Chart.sched blk (t + 1) = Chart.sched blk t ++ [wfold ((blk.drop (4 * t)).take 4)] := by simp [Chart.sched, hlt, hx]
        have Hsx := Lib.hid hsx; clear hsx hx hv hbs
        have b1 : ¬ (n : Int) < 4 * (t : Int) := by omega
        go_wp2_with fail
        refine C.out.mono ?_
        rintro e w1 ⟨rfl, rfl⟩
        go_wp2_with fail
        refine ⟨⟨t + 1, by omega, by go_num, Lib.hid ?_, Lib.hid (below_setCell hB.out (Nat.le_refl _) _ _)⟩, by simp [intOf]; omega⟩
        rw [← schedZ_set blk t (by omega) _ Hsx.out]
        exact hR.out.set _ _
      · obtain rfl : t = 16 := by omega
        go_wp2_with fail
        go_meet
        exact ⟨hB.out, hR.out⟩
  case rest =>
    obtain ⟨hB, hR⟩ := hcut
    go_upto_block 2 with fail
    go_cut [6] (fun _ wr => Below w.heap.size w wr ∧ RowIs wr w.heap.size 134 (words (schedZ blk 64)))
    case first =>
      have hB := Lib.hid hB; have hR := Lib.hid hR
      go_wp2_with fail
      go_loopw [6] (fun i wr => ∃ t : Nat, 16 ≤ t ∧ t ≤ 64 ∧ i = .int .i64 t ∧ Hid (RowIs wr w.heap.size 134 (words (schedZ blk t))) ∧ Hid (Below w.heap.size w wr)) (fun i _ => 64 - (intOf i).toNat)
      case atStart => exact ⟨16, by omega, by omega, rfl, hR, hB⟩
      case round =>
        obtain ⟨t, ht0, ht, rfl, hR, hB⟩ := hrel
        by_cases hlt : t < 64
        · obtain ⟨v, hv⟩ := schedZ_at blk t (by omega)
          have hcell : wr.cell? ⟨w.heap.size, t, none⟩ = some v := (hR.out.cell t).trans hv
          have hfr := hR.out.frozen t
          have c15 := (hR.out.cell (t - 15)).trans (schedZ_get blk t (t - 15) (by omega))
          have c2 := (hR.out.cell (t - 2)).trans (schedZ_get blk t (t - 2) (by omega))
          have c16 := (hR.out.cell (t - 16)).trans (schedZ_get blk t (t - 16) (by omega))
          have c7 := (hR.out.cell (t - 7)).trans (schedZ_get blk t (t - 7) (by omega))
          have hsx : Chart.sched blk (t + 1) = Chart.sched blk t ++ [(((Chart.sched blk t).getD (t - 16) 0 + Chart.sig0 ((Chart.sched blk t).getD (t - 15) 0)) + (Chart.sched blk t).getD (t - 7) 0) + Chart.sig1 ((Chart.sched blk t).getD (t - 2) 0)] := by
            rw [Chart.sched]; simp only [show ¬ t < 16 by omega, if_false]
          obtain ⟨x15, hx15⟩ : ∃ x, x = (Chart.sched blk t).getD (t - 15) 0 := ⟨_, rfl⟩
          obtain ⟨x2, hx2⟩ : ∃ x, x = (Chart.sched blk t).getD (t - 2) 0 := ⟨_, rfl⟩
          obtain ⟨x16, hx16⟩ : ∃ x, x = (Chart.sched blk t).getD (t - 16) 0 := ⟨_, rfl⟩
          obtain ⟨x7, hx7⟩ : ∃ x, x = (Chart.sched blk t).getD (t - 7) 0 := ⟨_, rfl⟩
          rw [← hx15] at hsx c15; rw [← hx2] at hsx c2; rw [← hx16] at hsx c16; rw [← hx7] at hsx c7
          clear hx15 hx2 hx16 hx7
          have Hsx := Lib.hid hsx; clear hsx
          clear hv
          have i15 : (0 : Int) ≤ (t : Int) - 15 ∧ (t : Int) - 15 < 64 := by omega
          have i2 : (0 : Int) ≤ (t : Int) - 2 ∧ (t : Int) - 2 < 64 := by omega
          go_wp2_with fail
          go_quiet (fail)
          go_wp2_with fail
          obtain ⟨d16, hd16⟩ : ∃ d : Nat, d = t - 16 := ⟨_, rfl⟩
          obtain ⟨d7, hd7⟩ : ∃ d : Nat, d = t - 7 := ⟨_, rfl⟩
          rw [← hd16] at c16; rw [← hd7] at c7
          have e16 : IntKind.i64.wrap ((t : Int) - 16) = (d16 : Int) := (wrap_i64_small' (by omega) (by omega)).trans (by omega)
          have e7 : IntKind.i64.wrap ((t : Int) - 7) = (d7 : Int) := (wrap_i64_small' (by omega) (by omega)).trans (by omega)
          have b16 : (d16 : Int) < 64 := by omega
          have b7 : (d7 : Int) < 64 := by omega
          have Hd16 := Lib.hid hd16; clear hd16
          have Hd7 := Lib.hid hd7; clear hd7
          go_still_tail 29, (by kernel_rfl)
          still_call (stillOf (rot_any x15 _ _))
          repeat still_step
          still_call (stillOf (rot_any x15 _ _))
          repeat still_step
          still_call (stillOf (rot_any x2 _ _))
          repeat still_step
          still_call (stillOf (rot_any x2 _ _))
          repeat still_step
          refine wpStill_nil ?_
          go_wp2_with fail
          rw [rot_7, rot_18, rot_17, rot_19]
          refine ⟨⟨t + 1, by omega, by omega, by go_num, Lib.hid ?_, Lib.hid ?_⟩, by simp [intOf]; omega⟩
          · rw [← schedZ_set blk t (by omega) _ Hsx.out]
            exact RowIs.set (show RowIs _ _ _ _ from hR.out) _ _
          · refine below_setCell ?_ (Nat.le_refl _) _ _
            exact hB.out.trans ⟨rfl, rfl, rfl, Nat.le_refl _, fun _ _ => rfl⟩
        · obtain rfl : t = 64 := by omega
          go_wp2_with fail
          go_meet
          exact ⟨hB.out, hR.out⟩
    case rest =>
      obtain ⟨hB, hR⟩ := hcut
      have hB := Lib.hid hB; have hR := Lib.hid hR
      have hc0 := ((Hs.out.below hB.out Hs.out.lt).cell 0).trans (show _ = some (u32v s.a) from rfl)
      have hc1 := ((Hs.out.below hB.out Hs.out.lt).cell 1).trans (show _ = some (u32v s.b) from rfl)
      have hc2 := ((Hs.out.below hB.out Hs.out.lt).cell 2).trans (show _ = some (u32v s.c) from rfl)
      have hc3 := ((Hs.out.below hB.out Hs.out.lt).cell 3).trans (show _ = some (u32v s.d) from rfl)
      have hc4 := ((Hs.out.below hB.out Hs.out.lt).cell 4).trans (show _ = some (u32v s.e) from rfl)
      have hc5 := ((Hs.out.below hB.out Hs.out.lt).cell 5).trans (show _ = some (u32v s.f) from rfl)
      have hc6 := ((Hs.out.below hB.out Hs.out.lt).cell 6).trans (show _ = some (u32v s.g) from rfl)
      have hc7 := ((Hs.out.below hB.out Hs.out.lt).cell 7).trans (show _ = some (u32v s.h) from rfl)
      have Hnum : ∀ t, t < 64 → wc.cell? ⟨4, t, none⟩ = some (.int .u32 (tn (Chart.kAt t))) := fun t ht => (World.cell?_of_block (hB.out.block _ hkb)).trans (Hk.out t ht)
      have Hnum := Lib.hid Hnum
      have hRlt := hR.out.lt
      have hgl := hB.out.size
      go_upto_block 4 with fail
      obtain ⟨gv, hgv⟩ : ∃ x : Nat, x = wc.heap.size := ⟨_, rfl⟩
      have Hgv := Lib.hid hgv; clear hgv
      go_cut [9, 10, 11, 12] (fun p _ _ _ wr => p = .pointer (some ⟨gv, 0, none⟩) ∧ Below wc.heap.size wc wr ∧ RowIs wr gv 120 (words (Chart.rounds blk s 64).list))
      case first =>
        go_wp2_with fail
        go_loopw [69] (fun i wr => ∃ t : Nat, t ≤ 64 ∧ i = .int .i64 t ∧ Hid (RowIs wr wc.heap.size 120 (words (Chart.rounds blk s t).list)) ∧ Hid (Below wc.heap.size wc wr)) (fun i _ => 64 - (intOf i).toNat)
        case atStart => exact ⟨0, by omega, rfl, Lib.hid (RowIs.new wc _ _), Lib.hid ((Below.refl _ _).alloc (Nat.le_refl _) _)⟩
        case round =>
          obtain ⟨t, ht, rfl, hV, hB2⟩ := hrel
          by_cases hlt : t < 64
          · have hw := ((hR.out.below hB2.out hRlt).cell t).trans (schedZ_get blk 64 t hlt)
            have hk := (World.cell?_of_block (a := ⟨4, t, none⟩) (hB2.out.block 4 (by omega))).trans (Hnum.out t hlt)
            obtain ⟨st, hst⟩ : ∃ st, st = Chart.rounds blk s t := ⟨_, rfl⟩
            obtain ⟨wt, hwt⟩ : ∃ x, x = (Chart.sched blk 64).getD t 0 := ⟨_, rfl⟩
            have hnext : Chart.rounds blk s (t + 1) = Chart.stepS st (Chart.kAt t) wt := by rw [hst, hwt]; rfl
            rw [← hst] at hV; rw [← hwt] at hw
            have hnext := Lib.hid hnext
            clear hst hwt
            have d0 := (hV.out.cell 0).trans (show _ = some (u32v st.a) from rfl)
            have d1 := (hV.out.cell 1).trans (show _ = some (u32v st.b) from rfl)
            have d2 := (hV.out.cell 2).trans (show _ = some (u32v st.c) from rfl)
            have d3 := (hV.out.cell 3).trans (show _ = some (u32v st.d) from rfl)
            have d4 := (hV.out.cell 4).trans (show _ = some (u32v st.e) from rfl)
            have d5 := (hV.out.cell 5).trans (show _ = some (u32v st.f) from rfl)
            have d6 := (hV.out.cell 6).trans (show _ = some (u32v st.g) from rfl)
            have d7 := (hV.out.cell 7).trans (show _ = some (u32v st.h) from rfl)
            have f0 := hV.out.frozen 0
            have f1 := hV.out.frozen 1
            have f4 := hV.out.frozen 4
            go_wp2_with fail
            go_quiet (exact Calls.quiet_of_same (stillOf (rotated_any _ _ _ _ _)))
            go_wp2_with fail
            go_quiet (exact quietNest (rotated_any _ _ _ _ _))
            go_wp2_with fail
            obtain ⟨F, hF⟩ : ∃ F : Nat → World, ∀ d, (Builtin.copy_ #[138, 138] 3 #[.slice (some ⟨wc.heap.size, 1, none⟩) 7 7, .slice (some ⟨wc.heap.size, 0, none⟩) 7 8]).run Tryz.prog { heap := wr.heap, tape := wr.tape, drawn := d, os := wr.os, output := wr.output } = .ok (goInt 7) (F d) ∧
                RowIs (F d) wc.heap.size 120 (words [st.a, st.a, st.b, st.c, st.d, st.e, st.f, st.g]) ∧ Below wc.heap.size wc (F d) := by
              refine ⟨fun d => World.setRow { heap := wr.heap, tape := wr.tape, drawn := d, os := wr.os, output := wr.output } wc.heap.size (words [st.a, st.a, st.b, st.c, st.d, st.e, st.f, st.g]).toArray, fun d => ?_⟩
              have hV' : RowIs { heap := wr.heap, tape := wr.tape, drawn := d, os := wr.os, output := wr.output } wc.heap.size 120 (words st.list) := hV.out
              refine ⟨?_, hV'.setRow _, ?_⟩
              rotate_left
              · refine below_setRow ?_ (Nat.le_refl _) _
                exact hB2.out.trans ⟨rfl, rfl, rfl, Nat.le_refl _, fun _ _ => rfl⟩
              refine hV'.copy (elem := 118) (vs := words [st.a, st.b, st.c, st.d, st.e, st.f, st.g]) (by kernel_rfl) (by kernel_rfl) rfl ?_ (by simp [words, Chart.St.list]) ?_
              · intro j v hj
                refine Eq.trans ?_ ((hV'.cell (0 + j)).trans ?_)
                · rw [Addr.add]
                  split
                  · rename_i h; subst h; rfl
                  · rfl
                · rw [Nat.zero_add]
                  rcases j with _ | _ | _ | _ | _ | _ | _ | j <;> first | exact hj | (simp [words] at hj)
              · intro v hv
                simp only [words, List.mem_map] at hv
                obtain ⟨x, _, rfl⟩ := hv
                rfl
            have E1 := fun d => (hF d).1
            have HR1 := Lib.hid (fun d => (hF d).2.1)
            have HB1 := Lib.hid (fun d => (hF d).2.2)
            clear hF
            have g0 : ∀ d, ∃ v, (F d).cell? ⟨wc.heap.size, 0, none⟩ = some v := fun d => ⟨_, (HR1.out d).cell 0⟩
            have g4 : ∀ d, (F d).cell? ⟨wc.heap.size, 4, none⟩ = some (u32v st.d) := fun d => (HR1.out d).cell 4
            have g0 : ∀ d, (F d).cell? ⟨wc.heap.size, 0, none⟩ = some (u32v st.a) := fun d => (HR1.out d).cell 0
            have k0 : ∀ d, (F d).frozen? ⟨wc.heap.size, 0, none⟩ = false := fun d => (HR1.out d).frozen 0
            have k4 : ∀ d, (F d).frozen? ⟨wc.heap.size, 4, none⟩ = false := fun d => (HR1.out d).frozen 4
            go_still_tail 2, (by kernel_rfl)
            go_wp2_with fail
            refine ⟨⟨t + 1, by omega, by go_num, Lib.hid ?_, Lib.hid ?_⟩, by simp [intOf]; omega⟩
            · rw [hnext.out]
              refine cast (congrArg (RowIs _ _ _) ?_) (((HR1.out _).set 4 _).set 0 _)
              simp only [rot3_one, rot3_zero, Chart.ch_other, Chart.maj_other]
              rfl
            · exact below_setCell (below_setCell (HB1.out _) (Nat.le_refl _) _ _) (Nat.le_refl _) _ _
          · obtain rfl : t = 64 := by omega
            go_wp2_with fail
            go_meet
            exact ⟨by rw [Hgv.out], hB2.out, by rw [Hgv.out]; exact hV.out⟩
      case rest =>
        obtain ⟨rfl, hB3, hV3⟩ := hcut
        have hAw : Apart b w wc := Apart.of_below (hB.out.trans (hB3.mono hB.out.size)) b
        have hSw := Hs.out.below (hB.out.trans (hB3.mono hB.out.size)) Hs.out.lt
        have hne : gv ≠ b := by have := Hs.out.lt; have := Hgv.out; omega
        have hAw := Lib.hid hAw; have hSw := Lib.hid hSw; have hV3 := Lib.hid hV3; have hne := Lib.hid hne
        clear hB3 hc0 hc1 hc2 hc3 hc4 hc5 hc6 hc7
        obtain ⟨m, hm⟩ : ∃ m, m = Chart.rounds blk s 64 := ⟨_, rfl⟩
        rw [← hm] at hV3
        have Hm := Lib.hid hm; clear hm
        go_wp2_with fail
        go_loopw [129] (fun i wr => ∃ t : Nat, t ≤ 8 ∧ i = .int .i64 t ∧ Hid (RowIs wr b T (words (mixL s.list m.list t))) ∧ Hid (RowIs wr gv 120 (words m.list)) ∧ Hid (Apart b w wr)) (fun i _ => 8 - (intOf i).toNat)
        case atStart => exact ⟨0, by omega, rfl, hSw, hV3, hAw⟩
        case round =>
          obtain ⟨t, ht, rfl, hR, hV, hA⟩ := hrel
          by_cases hlt : t < 8
          · have hc1 := (hR.out.cell t).trans (mixL_get s.list m.list t rfl rfl hlt)
            have hc2 := (hV.out.cell t).trans (words_get m.list t (show t < m.list.length from hlt))
            have hfr := hR.out.frozen t
            have hx := mixL_set s.list m.list t rfl rfl hlt
            obtain ⟨x, hx1⟩ : ∃ x, x = s.list.getD t 0 := ⟨_, rfl⟩
            obtain ⟨y, hy1⟩ : ∃ x, x = m.list.getD t 0 := ⟨_, rfl⟩
            rw [← hx1] at hc1 hx; rw [← hy1] at hc2 hx
            have Hx := Lib.hid hx
            clear hx hx1 hy1
            go_wp2_with fail
            go_still_tail 11, (by kernel_rfl)
            go_wp2_with fail
            refine ⟨⟨t + 1, by omega, by go_num, Lib.hid ?_, Lib.hid ?_, Lib.hid ?_⟩, by simp [intOf]; omega⟩
            · rw [← Hx.out]
              refine RowIs.drew (RowIs.set ?_ _ _)
              exact hR.out
            · refine RowIs.apart (show RowIs _ _ _ _ from hV.out) ?_ hne.out
              exact (Apart.setCell _ _ _ _).trans (Apart.drew _ _)
            · exact hA.out.trans ((Apart.setCell _ _ _ _).trans (Apart.drew _ _))
          · obtain rfl : t = 8 := by omega
            go_wp2_with fail
            go_end0
            refine ⟨rfl, hA.out, ?_⟩
            refine cast (congrArg (RowIs _ _ _) ?_) hR.out
            rw [Hm.out]; rfl
end Go.Proofs.YtgklcfipgdbbgaaGreatDoor
