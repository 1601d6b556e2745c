/- codec.formed and codec.Check, at flat lists. -/
import Derived.Deep.RegionHeld3
import Derived.Test.YtgklcfipgdbbgaaGreatDoorM16
import Derived.Test.YtgklcfipgdbbgaaGreatDoorM17
namespace Go.Proofs.YtgklcfipgdbbgaaGreatDoor
open Go.RowKit

/-- What a flat list holds. -/
inductive It where
  | text (s : ByteArray)
  | int (n : Int)

def It.cells : It → List Value
  | .text s => [.int .i64 2, .int .i64 0, .string s, .slice none 0 0]
  | .int n => [.int .i64 1, .int .i64 n, .string ⟨#[]⟩, .slice none 0 0]

def It.ok : It → Prop
  | .text s => s.data.toList.length < 1000000
  | .int n => -9223372036854775808 ≤ n ∧ n ≤ 9223372036854775807

theorem below_two (w : World) (a b : Obj) : Below w.heap.size w ((w.alloc a).alloc b) := ((Below.refl _ w).alloc (Nat.le_refl _) _).alloc (by simp) _

set_option maxRecDepth 20000 in
theorem formed_it (x : It) (w : World) : Calls Tryz.prog 73 #[.agg x.cells.toArray] w fun e w' => e = .returned (.tuple #[.int .i64 0, .bool true]) ∧ Below w.heap.size w w' := by
  cases x with
  | text s =>
    show Calls _ _ #[.agg #[.int .i64 2, .int .i64 0, .string s, .slice none 0 0]] _ _
    go_enter Tryz.func73, Tryz.ntmps73
    go_wp2_with fail
    all_goals
      go_ret2
      exact ⟨rfl, below_two _ _ _⟩
  | int n =>
    show Calls _ _ #[.agg #[.int .i64 1, .int .i64 n, .string ⟨#[]⟩, .slice none 0 0]] _ _
    go_enter Tryz.func73, Tryz.ntmps73
    go_wp2_with fail
    all_goals
      go_ret2
      exact ⟨rfl, below_two _ _ _⟩

/-- A flat list in memory. -/
def ItsAt (w : World) (g : Nat) (l : List It) : Prop := ∀ i (h : i < l.length) j v, l[i].cells[j]? = some v → w.cell? ⟨g, 4 * i + j, none⟩ = some v

theorem ItsAt.below {B : Nat} {w w' : World} {g : Nat} {l : List It} (h : ItsAt w g l) (hb : Below B w w') (hg : g < B) : ItsAt w' g l :=
  fun i hi j v hv => ((bcell hb).1 _ _ hg).trans (h i hi j v hv)
theorem It.four (x : It) : ∃ k n s, x.cells = [.int .i64 k, .int .i64 n, .string s, .slice none 0 0] := by
  cases x
  · exact ⟨_, _, _, rfl⟩
  · exact ⟨_, _, _, rfl⟩

set_option maxRecDepth 20000 in
set_option maxHeartbeats 2000000 in
theorem formed_list (l : List It) (g cap : Nat) (hcap : l.length ≤ cap) (hmax : l.length < 1000000) (w : World) (hl : ItsAt w g l) (hg : g < w.heap.size) :
    Calls Tryz.prog 73 #[.agg #[.int .i64 3, .int .i64 0, .string ⟨#[]⟩, .slice (some ⟨g, 0, none⟩) l.length cap]] w fun e w' => e = .returned (.tuple #[.int .i64 1, .bool true]) ∧ Below w.heap.size w w' := by
  obtain ⟨n, hn⟩ : ∃ n, n = l.length := ⟨_, rfl⟩
  rw [← hn] at hcap hmax ⊢
  have Hl := Lib.hid hl
  have Hn := Lib.hid hn
  clear hl hn
  go_enter Tryz.func73, Tryz.ntmps73
  go_wp2_with fail
  go_loopw [57, 2] (fun i d wr => ∃ t : Nat, t ≤ n ∧ i = .int .i64 t ∧ d = .int .i64 0 ∧ Hid (Below w.heap.size w wr)) (fun i _ _ => n - (intOf i).toNat)
  case atStart => exact ⟨0, by omega, rfl, rfl, Lib.hid (below_two _ _ _)⟩
  case round =>
    obtain ⟨t, ht, rfl, rfl, hB⟩ := hrel
    by_cases hlt : t < n
    · obtain ⟨x, hx⟩ : ∃ x, x = l[t]'(by have := Hn.out; omega) := ⟨_, rfl⟩
      obtain ⟨a, b, c, hx4⟩ := x.four
      have hcs := fun j v => (Hl.out.below hB.out hg) t (by have := Hn.out; omega) j v
      rw [← hx, hx4] at hcs
      have k0 := hcs 0 _ rfl
      have k1 := hcs 1 _ rfl
      have k2 := hcs 2 _ rfl
      have k3 := hcs 3 _ rfl
      rw [show 4 * t + 0 = t * 4 by omega] at k0
      rw [show 4 * t + 1 = t * 4 + 1 by omega] at k1
      rw [show 4 * t + 2 = t * 4 + 2 by omega] at k2
      rw [show 4 * t + 3 = t * 4 + 3 by omega] at k3
      obtain ⟨w1, hw1⟩ : ∃ w1, w1 = wr.alloc (.cells #[.int .i64 a, .int .i64 b, .string c, .slice none 0 0] 59) := ⟨_, rfl⟩
      have C := Lib.hid (formed_it x w1)
      rw [hx4, hw1] at C
      clear hcs hx
      clear hw1
      go_wp2_with fail
      refine C.out.mono ?_
      rintro e w2 ⟨rfl, hB2⟩
      have HH : Hid (Below w.heap.size w w2) := by
        have h1 := hB.out.size
        have h2 : Below w.heap.size w (wr.alloc (.cells #[.int .i64 a, .int .i64 b, .string c, .slice none 0 0] 59)) := hB.out.alloc h1 _
        exact Lib.hid (h2.trans (hB2.mono h2.size))
      clear hB2
      go_wp2_with fail
      exact ⟨⟨t + 1, by omega, by go_num, rfl, HH⟩, by simp [intOf]; omega⟩
    · obtain rfl : t = n := by omega
      go_wp2_with fail
      go_ret2
      exact ⟨rfl, hB.out⟩
end Go.Proofs.YtgklcfipgdbbgaaGreatDoor

/- codec: how a text is written. -/
namespace Go.Proofs.YtgklcfipgdbbgaaGreatDoor
open Go.RowKit
attribute [-go_sem] Builtin.append_

theorem step_append_run {P : Program} {ops : Array Oper} {o : Oper} {a : Act} {w : World} {K : Act → World → Prop} {Q : Exit → Act → World → Prop} {E : Prop} (hgd : o.guard = none) (s x : Operand) (t u : TypeId)
    (ho : o.op = .call { callee := .builtin .append, args := #[s, x], argTypes := #[t, u] }) (vs vx : Value) (hs : a.eval s = vs) (hx : a.eval x = vx)
    (v' : Value) (w' : World) (hr : (Builtin.append_ #[t, u] o.type #[vs, vx]).run P w = .ok v' w') (h : K (a.put o.dst v') w') :
    if Region.wanted o (yielded ops a.tmps) = true then Oper.wp P o a w K Q else E := by
  have hw : Region.wanted o (yielded ops a.tmps) = true := by simp [Region.wanted, hgd]
  rw [if_pos hw]
  exact Lib.wp_append_run w s x t u ho vs vx hs hx v' w' hr h

set_option maxRecDepth 20000 in
theorem write_text {B : Nat} {w : World} {v : Value} {l : List UInt8} (h : Own B w v l) (hB : B ≤ w.heap.size) (s : ByteArray) (hlim : l.length + s.data.toList.length + 40 ≤ 140737488355328) :
    Calls Tryz.prog 77 #[v, .agg #[.int .i64 2, .int .i64 0, .string s, .slice none 0 0]] w fun e w' => ∃ v', e = .returned v' ∧ Own B w' v' (l ++ (2 :: numB s.data.toList.length ++ s.data.toList)) ∧ Gr w v w' v' := by
  have hsz : s.size = s.data.toList.length := by rw [Array.length_toList]; rfl
  obtain ⟨wb, hwb⟩ : ∃ x, x = w.alloc (.cells #[.int .i64 2, .int .i64 0, .string s, .slice none 0 0] 59) := ⟨_, rfl⟩
  have hRb : RowIs wb w.heap.size 59 [.int .i64 2, .int .i64 0, .string s, .slice none 0 0] := by rw [hwb]; exact RowIs.new w _ _
  have hGb : Gr w v wb v := by rw [hwb]; exact Gr.alloc _ _ _
  have hBb : Below w.heap.size w wb := by rw [hwb]; exact (Below.refl _ w).alloc (Nat.le_refl _) _
  have hwbs : wb.heap.size = w.heap.size + 1 := by rw [hwb]; simp
  obtain ⟨v1, w1, E1, hO1, hG1⟩ := append_byte_drew (h.below hBb (Nat.le_refl _)) (by omega) 2 (by omega)
  have hv : v.ownBlock ≠ some w.heap.size := fun he => by have := own_lt h _ he; omega
  have hG01 := hGb.trans hG1
  have hv1 : v1.ownBlock ≠ some w.heap.size := fun he => by
    rcases hG1.own _ he with h1 | h1
    · exact hv h1
    · omega
  have hc1 : w1.cell? ⟨w.heap.size, 2, none⟩ = some (.string s) := (hG1.cell (by omega) hv 2).trans (hRb.cell 2)
  have hs1 : w.heap.size < w1.heap.size := by have := hG1.size; omega
  have C1 := Lib.hid (numeral_any hO1 (by have := hG01.size; omega) s.size (by omega) (by simp; omega))
  have e1 : IntKind.u64.wrap (s.size : Int) = (s.size : Int) := by rw [IntKind.wrap_u64]; omega
  have hcb : wb.cell? ⟨w.heap.size, 2, none⟩ = some (.string s) := hRb.cell 2
  have Hlim := Lib.hid hlim
  have H := Lib.hid (And.intro h (And.intro hO1 (And.intro hG01 (And.intro hv1 hsz))))
  clear h hlim hO1 hG1 hG01 hGb hBb hv hv1 hRb hsz
  go_enter Tryz.func77, Tryz.ntmps77
  go_upto_region 1 with fail
  rw [← hwb]
  rw [hwbs] at E1
  have E1 : (Builtin.append_ #[56, 56] 56 #[v, .slice (some ⟨w.heap.size + 1, 0, none⟩) 1 1]).run Tryz.prog (wb.alloc (.cells #[.int .u8 2] 5)).drew = .ok v1 w1 := E1
  have hne := World.new_ne wb ⟨w.heap.size, 2, none⟩ hcb
  clear hwb
  go_region_held3 (fun w' => w'.cell? ⟨w.heap.size, 2, none⟩ = some (.string s)) (first | assumption | go_keep)
    (first
      | (refine step_append_run rfl _ _ _ _ (by rfl) _ _ (by rfl) (by rfl) v1 w1 E1 ?_)
      | (go_at_call 75
         refine C1.out.mono ?_
         rintro e w2 ⟨v2, rfl, hO2, hG2⟩
         have hc2 : w2.cell? ⟨w.heap.size, 2, none⟩ = some (.string s) := (hG2.cell hs1 H.out.2.2.2.1 2).trans hc1
         have hv2 : v2.ownBlock ≠ some w.heap.size := fun he => by
           rcases hG2.own _ he with h1 | h1
           · exact H.out.2.2.2.1 h1
           · omega
         have H2 := Lib.hid (And.intro hO2 (And.intro hG2 hv2))
         have hs2 := hG2.size
         clear hO2 hG2 hv2)
      | (obtain ⟨v3, w3, E3, hO3, hG3⟩ := append_str H2.out.1 (by have := H.out.2.2.1.size; omega) s (by have := H.out.2.2.2.2; have := Hlim.out; simp; have := numB_length 10 s.size (by omega); omega)
         have hc3 : w3.cell? ⟨w.heap.size, 2, none⟩ = some (.string s) := (hG3.cell (by omega) H2.out.2.2 2).trans hc2
         have H3 := Lib.hid (And.intro hO3 (H.out.2.2.1.trans (H2.out.2.1.trans hG3)))
         clear hO3 hG3
         refine step_append_run rfl _ _ _ _ (by rfl) _ _ (by rfl) (by rfl) v3 w3 E3 ?_))
  go_wp2_with fail
  go_ret
  refine ⟨v3, rfl, ?_, H3.out.2⟩
  have := H3.out.1
  rw [H.out.2.2.2.2] at this
  simpa using this

/-- The unsigned form of an integer. -/
def zig (n : Int) : Nat := (bits .xor .u64 (IntKind.u64.wrap (IntKind.u64.wrap n * 2)) (IntKind.u64.wrap (n / 9223372036854775808))).toNat

theorem zig_eq (n : Int) : ((zig n : Nat) : Int) = bits .xor .u64 (IntKind.u64.wrap (IntKind.u64.wrap n * 2)) (IntKind.u64.wrap (n / 9223372036854775808)) ∧ zig n < 18446744073709551616 := by
  unfold zig
  have h : ∀ a b, 0 ≤ bits .xor .u64 a b ∧ bits .xor .u64 a b < 18446744073709551616 := by
    intro a b
    show 0 ≤ IntKind.u64.wrap ((BitVec.ofInt 64 a ^^^ BitVec.ofInt 64 b).toNat : Int) ∧ IntKind.u64.wrap ((BitVec.ofInt 64 a ^^^ BitVec.ofInt 64 b).toNat : Int) < 18446744073709551616
    rw [IntKind.wrap_u64]
    omega
  have := h (IntKind.u64.wrap (IntKind.u64.wrap n * 2)) (IntKind.u64.wrap (n / 9223372036854775808))
  omega

theorem unsigned_any (n : Int) (w : World) : Calls Tryz.prog 76 #[.int .i64 n] w fun e w' => e = .returned (.int .u64 (zig n)) ∧ w = w' := by
  have h := (zig_eq n).1
  go_enter Tryz.func76, Tryz.ntmps76
  go_wp2_with fail
  go_ret
  refine ⟨?_, rfl⟩
  rw [h]
  rfl

set_option maxRecDepth 20000 in
theorem write_int {B : Nat} {w : World} {v : Value} {l : List UInt8} (h : Own B w v l) (hB : B ≤ w.heap.size) (n : Int) (hlim : l.length + 40 ≤ 140737488355328) :
    Calls Tryz.prog 74 #[v, .agg #[.int .i64 1, .int .i64 n, .string ⟨#[]⟩, .slice none 0 0]] w fun e w' => ∃ v', e = .returned v' ∧ Own B w' v' (l ++ (1 :: numB (zig n))) ∧ Gr w v w' v' := by
  obtain ⟨wb, hwb⟩ : ∃ x, x = w.alloc (.cells #[.int .i64 1, .int .i64 n, .string ⟨#[]⟩, .slice none 0 0] 59) := ⟨_, rfl⟩
  have hRb : RowIs wb w.heap.size 59 [.int .i64 1, .int .i64 n, .string ⟨#[]⟩, .slice none 0 0] := by rw [hwb]; exact RowIs.new w _ _
  have hGb : Gr w v wb v := by rw [hwb]; exact Gr.alloc _ _ _
  have hBb : Below w.heap.size w wb := by rw [hwb]; exact (Below.refl _ w).alloc (Nat.le_refl _) _
  have hwbs : wb.heap.size = w.heap.size + 1 := by rw [hwb]; simp
  obtain ⟨v1, w1, E1, hO1, hG1⟩ := append_byte_drew (h.below hBb (Nat.le_refl _)) (by omega) 1 (by omega)
  have hv : v.ownBlock ≠ some w.heap.size := fun he => by have := own_lt h _ he; omega
  have hG01 := hGb.trans hG1
  have hv1 : v1.ownBlock ≠ some w.heap.size := fun he => by
    rcases hG1.own _ he with h1 | h1
    · exact hv h1
    · omega
  have hc1 : w1.cell? ⟨w.heap.size, 1, none⟩ = some (.int .i64 n) := (hG1.cell (by omega) hv 1).trans (hRb.cell 1)
  have hs1 : w.heap.size < w1.heap.size := by have := hG1.size; omega
  obtain ⟨z, hz⟩ : ∃ z, z = zig n := ⟨_, rfl⟩
  have C0 : Hid (∀ w, Calls Tryz.prog 76 #[.int .i64 n] w fun e w' => e = .returned (.int .u64 z) ∧ w = w') := Lib.hid (fun w => by rw [hz]; exact unsigned_any n w)
  have C1 := Lib.hid (numeral_any hO1 (by have := hG01.size; omega) z (by have := (zig_eq n).2; omega) (by simp; omega))
  have hcb : wb.cell? ⟨w.heap.size, 1, none⟩ = some (.int .i64 n) := hRb.cell 1
  have H := Lib.hid (And.intro hG01 (And.intro hv1 hz))
  clear h hlim hO1 hG1 hG01 hGb hBb hv hv1 hRb hz
  go_enter Tryz.func74, Tryz.ntmps74
  go_upto_region 1 with fail
  rw [← hwb]
  rw [hwbs] at E1
  have E1 : (Builtin.append_ #[56, 56] 56 #[v, .slice (some ⟨w.heap.size + 1, 0, none⟩) 1 1]).run Tryz.prog (wb.alloc (.cells #[.int .u8 1] 5)).drew = .ok v1 w1 := E1
  have hne := World.new_ne wb ⟨w.heap.size, 1, none⟩ hcb
  clear hwb
  go_region_held3 (fun w' => w'.cell? ⟨w.heap.size, 1, none⟩ = some (.int .i64 n)) (first | assumption | go_keep)
    (first
      | (refine step_append_run rfl _ _ _ _ (by rfl) _ _ (by rfl) (by rfl) v1 w1 E1 ?_)
      | (go_at_call 76
         refine (C0.out _).mono ?_
         rintro e w0 ⟨rfl, rfl⟩)
      | (go_at_call 75
         refine C1.out.mono ?_
         rintro e w2 ⟨v2, rfl, hO2, hG2⟩
         have hc2 : w2.cell? ⟨w.heap.size, 1, none⟩ = some (.int .i64 n) := (hG2.cell hs1 H.out.2.1 1).trans hc1
         have H2 := Lib.hid (And.intro hO2 (H.out.1.trans hG2))
         clear hO2 hG2))
  all_goals
    go_wp2_with fail
    go_ret
    refine ⟨v2, rfl, ?_, H2.out.2⟩
    have := H2.out.1
    rw [H.out.2.2] at this
    simpa using this
end Go.Proofs.YtgklcfipgdbbgaaGreatDoor
