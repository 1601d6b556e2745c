/- What all walks of this seat share: bytes and words as values, slices that read as lists, small laws on worlds. -/
import Derived.WalkKit
import Derived.Lib.Hide
import Derived.Laws.CopyRow
import Derived.Deep.QuietTactic
import Derived.Laws.MakeOwn
import Derived.Test.YtgklcfipgdbbgaaGreatDoorProg
namespace Go.Proofs.YtgklcfipgdbbgaaGreatDoor
open Go.RowKit


/-- A byte as a number, and a word as a number: plain definitions, which the walk does not open. -/
def bn (c : UInt8) : Int := (c.toNat : Int)
def tn (x : BitVec 32) : Int := (x.toNat : Int)
/-- A byte and a word as values. -/
abbrev u8v (c : UInt8) : Value := .int .u8 (bn c)
abbrev u32v (x : BitVec 32) : Value := .int .u32 (tn x)
theorem bn_nonneg (c : UInt8) : 0 ≤ bn c := by unfold bn; omega
theorem bn_lt (c : UInt8) : bn c < 256 := by have := c.toNat_lt; unfold bn; omega
theorem tn_nonneg (x : BitVec 32) : 0 ≤ tn x := by unfold tn; omega
theorem tn_lt (x : BitVec 32) : tn x < 4294967296 := by have := x.isLt; unfold tn; omega
theorem bn_inj {c d : UInt8} (h : bn c = bn d) : c = d := by
  unfold bn at h
  exact UInt8.toNat_inj.1 (by omega)

theorem ofInt_tn (x : BitVec 32) : BitVec.ofInt 32 (tn x) = x := by
  unfold tn
  rw [BitVec.ofInt_natCast]
  simp
theorem wrap_toNat (x : BitVec 32) : IntKind.u32.wrap (x.toNat : Int) = tn x := by
  have := x.isLt
  rw [IntKind.wrap_u32']
  unfold tn
  omega
@[go_sem high] theorem bits_xor_tn (x y : BitVec 32) : bits .xor .u32 (tn x) (tn y) = tn (x ^^^ y) := by
  show IntKind.u32.wrap ((BitVec.ofInt 32 (tn x) ^^^ BitVec.ofInt 32 (tn y)).toNat : Int) = _
  rw [ofInt_tn, ofInt_tn, wrap_toNat]
@[go_sem high] theorem bits_and_tn (x y : BitVec 32) : bits .and .u32 (tn x) (tn y) = tn (x &&& y) := by
  show IntKind.u32.wrap ((BitVec.ofInt 32 (tn x) &&& BitVec.ofInt 32 (tn y)).toNat : Int) = _
  rw [ofInt_tn, ofInt_tn, wrap_toNat]
@[go_sem high] theorem bits_or_tn (x y : BitVec 32) : bits .or .u32 (tn x) (tn y) = tn (x ||| y) := by
  show IntKind.u32.wrap ((BitVec.ofInt 32 (tn x) ||| BitVec.ofInt 32 (tn y)).toNat : Int) = _
  rw [ofInt_tn, ofInt_tn, wrap_toNat]
@[go_sem high] theorem wrap_add_tn (x y : BitVec 32) : IntKind.u32.wrap (tn x + tn y) = tn (x + y) := by
  rw [IntKind.wrap_u32']
  unfold tn
  rw [BitVec.toNat_add]
  omega
@[go_sem ↓ high] theorem shift_shr_tn (x : BitVec 32) (yk : IntKind) (y : Int) (h : 0 ≤ y) : Op.shift .shr .u32 (tn x) yk y = pure (.int .u32 (tn (x >>> y.toNat))) := by
  rw [shift_shr_any _ _ _ _ h]
  congr 2
  unfold tn
  rw [BitVec.toNat_ushiftRight, Nat.shiftRight_eq_div_pow]
  show (x.toNat : Int) / 2 ^ min y.toNat 32 = _
  by_cases hy : y.toNat ≤ 32
  · rw [Nat.min_eq_left hy]
    simp
  · rw [Nat.min_eq_right (by omega)]
    have h1 := x.isLt
    have h2 : 2 ^ 32 ≤ 2 ^ y.toNat := Nat.pow_le_pow_right (by decide) (by omega)
    rw [Nat.div_eq_of_lt (by omega)]
    omega
@[go_sem ↓ high] theorem shift_shl_tn (x : BitVec 32) (yk : IntKind) (y : Int) (h : 0 ≤ y) : Op.shift .shl .u32 (tn x) yk y = pure (.int .u32 (tn (x <<< y.toNat))) := by
  rw [shift_shl_any _ _ _ _ h]
  congr 2
  rw [IntKind.wrap_u32']
  unfold tn
  rw [BitVec.toNat_shiftLeft, Nat.shiftLeft_eq]
  show (x.toNat : Int) * 2 ^ min y.toNat 32 % _ = _
  by_cases hy : y.toNat ≤ 32
  · rw [Nat.min_eq_left hy]
    simp
  · rw [Nat.min_eq_right (by omega)]
    have e : 2 ^ y.toNat = 2 ^ 32 * 2 ^ (y.toNat - 32) := by rw [← Nat.pow_add]; congr 1; omega
    rw [e, ← Nat.mul_assoc, Nat.mul_comm _ (2 ^ 32), Nat.mul_assoc, Nat.mul_mod_right]
    omega
/-- A byte as a word. -/
@[go_sem high] theorem wrap_bn32 (c : UInt8) : IntKind.u32.wrap (bn c) = tn (c.toBitVec.setWidth 32) := by
  have := c.toNat_lt
  rw [IntKind.wrap_u32']
  unfold bn tn
  rw [BitVec.toNat_setWidth, UInt8.toNat_toBitVec]
  omega

/-- Below: all old cells and all old marks read as before. -/
theorem bcell {B : Nat} {W w1 : World} (hb : Below B W w1) : (∀ b o, b < B → w1.cell? ⟨b, o, none⟩ = W.cell? ⟨b, o, none⟩) ∧ (∀ b o, b < B → w1.frozen? ⟨b, o, none⟩ = W.frozen? ⟨b, o, none⟩) :=
  ⟨fun b o h => hb.cell (p := ⟨b, o, none⟩) h, fun b o h => hb.frozen (p := ⟨b, o, none⟩) h⟩

theorem below_setCell {B b : Nat} {a w : World} (h : Below B a w) (hp : B ≤ b) (o : Nat) (u : Value) : Below B a (w.setCell ⟨b, o, none⟩ u) := h.setCell (p := ⟨b, o, none⟩) hp u
theorem cell_set_other {b c : Nat} (h : b ≠ c) (w : World) (i j : Nat) (v : Value) : (w.setCell ⟨c, j, none⟩ v).cell? ⟨b, i, none⟩ = w.cell? ⟨b, i, none⟩ :=
  World.cell?_of_block (w := w) (Below.heap_setCell _ _ _ _ h)
theorem cell_set_off {i j : Nat} (h : i ≠ j) (w : World) (b : Nat) (v : Value) : (w.setCell ⟨b, j, none⟩ v).cell? ⟨b, i, none⟩ = w.cell? ⟨b, i, none⟩ := by
  simp only [World.setCell, World.cell?, Array.getElem?_modify]
  cases w.heap[b]? with
  | none => simp
  | some o => cases o <;> simp [Array.getElem?_setIfInBounds_ne (fun e => h e.symm)]
theorem cell_set_same (w : World) (b i : Nat) (v : Value) {u : Value} (h : w.cell? ⟨b, i, none⟩ = some u) : (w.setCell ⟨b, i, none⟩ v).cell? ⟨b, i, none⟩ = some v :=
  World.cell?_setCell_same' w ⟨b, i, none⟩ v (by rw [h]; rfl)
theorem frozen_set (w : World) (a : Addr) (v : Value) (c : Addr) : (w.setCell a v).frozen? c = w.frozen? c := World.frozen?_setCell ..
theorem cell_alloc {b i : Nat} {w : World} (o : Obj) (h : b < w.heap.size) : (w.alloc o).cell? ⟨b, i, none⟩ = w.cell? ⟨b, i, none⟩ :=
  World.cell?_of_block (w := w) (Below.heap_alloc _ _ _ h)
theorem frozen_alloc {b i : Nat} {w : World} (o : Obj) (h : b < w.heap.size) : (w.alloc o).frozen? ⟨b, i, none⟩ = w.frozen? ⟨b, i, none⟩ :=
  World.frozen?_of_block (w := w) (Below.heap_alloc _ _ _ h)
theorem heap_new (w : World) (o : Obj) : (w.alloc o).heap[w.heap.size]? = some o := by
  show (w.heap.push o)[w.heap.size]? = _
  simp
theorem cell_new (w : World) (cs : Array Value) (t : TypeId) (i : Nat) : (w.alloc (.cells cs t)).cell? ⟨w.heap.size, i, none⟩ = cs[i]? := by
  simp only [World.cell?, heap_new]
  rfl
theorem frozen_new (w : World) (cs : Array Value) (t : TypeId) (i : Nat) : (w.alloc (.cells cs t)).frozen? ⟨w.heap.size, i, none⟩ = false := by
  simp only [World.frozen?, heap_new]
  simp
theorem cell_lt {w : World} {b i : Nat} {v : Value} (h : w.cell? ⟨b, i, none⟩ = some v) : b < w.heap.size := by
  apply Classical.byContradiction
  intro hc
  simp [World.cell?, Array.getElem?_eq_none (show w.heap.size ≤ b by omega)] at h

/-- Block g alone may have changed; new blocks may have come. -/
structure Apart (g : Nat) (w w' : World) : Prop where
  os : w'.os = w.os
  tape : w'.tape = w.tape
  output : w'.output = w.output
  size : w.heap.size ≤ w'.heap.size
  block : ∀ k, k < w.heap.size → k ≠ g → w'.heap[k]? = w.heap[k]?
theorem Apart.refl (g : Nat) (w : World) : Apart g w w := ⟨rfl, rfl, rfl, Nat.le_refl _, fun _ _ _ => rfl⟩
theorem Apart.trans {g : Nat} {a b c : World} (h : Apart g a b) (k : Apart g b c) : Apart g a c :=
  ⟨k.os.trans h.os, k.tape.trans h.tape, k.output.trans h.output, Nat.le_trans h.size k.size, fun i hi hg => (k.block i (Nat.lt_of_lt_of_le hi h.size) hg).trans (h.block i hi hg)⟩
theorem Apart.of_below {w w' : World} (h : Below w.heap.size w w') (g : Nat) : Apart g w w' := ⟨h.os, h.tape, h.output, h.size, fun k hk _ => h.block k hk⟩
theorem Apart.setCell (w : World) (g i : Nat) (v : Value) : Apart g w (w.setCell ⟨g, i, none⟩ v) :=
  ⟨rfl, rfl, rfl, by simp, fun k _ hk => Below.heap_setCell _ _ _ _ hk⟩
theorem Apart.alloc (g : Nat) (w : World) (o : Obj) : Apart g w (w.alloc o) :=
  ⟨rfl, rfl, rfl, by simp, fun k hk _ => Below.heap_alloc _ _ _ hk⟩
theorem Apart.drew (g : Nat) (w : World) : Apart g w w.drew := ⟨rfl, rfl, rfl, Nat.le_refl _, fun _ _ _ => rfl⟩
theorem Apart.below {g B : Nat} {a w w' : World} (h : Apart g w w') (hb : Below B a w) (hg : B ≤ g) (hB : B ≤ w.heap.size) : Below B a w' :=
  ⟨h.os.trans hb.os, h.tape.trans hb.tape, h.output.trans hb.output, Nat.le_trans hb.size h.size, fun k hk => (h.block k (by omega) (by omega)).trans (hb.block k hk)⟩
theorem Apart.cell {g : Nat} {w w' : World} (h : Apart g w w') {b : Nat} (hb : b < w.heap.size) (hg : b ≠ g) (o : Nat) : w'.cell? ⟨b, o, none⟩ = w.cell? ⟨b, o, none⟩ :=
  World.cell?_of_block (w := w) (h.block b hb hg)
theorem Apart.frozen {g : Nat} {w w' : World} (h : Apart g w w') {b : Nat} (hb : b < w.heap.size) (hg : b ≠ g) (o : Nat) : w'.frozen? ⟨b, o, none⟩ = w.frozen? ⟨b, o, none⟩ :=
  World.frozen?_of_block (w := w) (h.block b hb hg)

/-- Block g is a row of just these cells, and may be written. -/
def RowIs (w : World) (g : Nat) (t : TypeId) (cs : List Value) : Prop := w.heap[g]? = some (.cells cs.toArray t (0, 0))
theorem RowIs.cell {w : World} {g : Nat} {t : TypeId} {cs : List Value} (h : RowIs w g t cs) (i : Nat) : w.cell? ⟨g, i, none⟩ = cs[i]? := by
  unfold RowIs at h
  simp [World.cell?, h]
theorem RowIs.frozen {w : World} {g : Nat} {t : TypeId} {cs : List Value} (h : RowIs w g t cs) (i : Nat) : w.frozen? ⟨g, i, none⟩ = false := by
  unfold RowIs at h
  simp [World.frozen?, h]
theorem RowIs.lt {w : World} {g : Nat} {t : TypeId} {cs : List Value} (h : RowIs w g t cs) : g < w.heap.size := by
  unfold RowIs at h
  exact (Array.getElem?_eq_some_iff.1 h).1
theorem RowIs.set {w : World} {g : Nat} {t : TypeId} {cs : List Value} (h : RowIs w g t cs) (i : Nat) (v : Value) : RowIs (w.setCell ⟨g, i, none⟩ v) g t (cs.set i v) := by
  unfold RowIs at *
  simp [World.setCell, Array.getElem?_modify, h]
theorem RowIs.below {B : Nat} {w w1 : World} {g : Nat} {t : TypeId} {cs : List Value} (h : RowIs w g t cs) (hb : Below B w w1) (hg : g < B) : RowIs w1 g t cs := (hb.block g hg).trans h
theorem RowIs.apart {w w1 : World} {g b : Nat} {t : TypeId} {cs : List Value} (h : RowIs w g t cs) (ha : Apart b w w1) (hg : g ≠ b) : RowIs w1 g t cs := (ha.block g h.lt hg).trans h
theorem RowIs.new (w : World) (cs : List Value) (t : TypeId) : RowIs (w.alloc (.cells cs.toArray t)) w.heap.size t cs := heap_new w _
theorem RowIs.alloc {w : World} {g : Nat} {t : TypeId} {cs : List Value} (h : RowIs w g t cs) (o : Obj) : RowIs (w.alloc o) g t cs := (Below.heap_alloc _ _ _ h.lt).trans h

theorem wrap_i64_small' {r : Int} (h0 : -9223372036854775808 ≤ r) (h1 : r ≤ 9223372036854775807) : IntKind.i64.wrap r = r := by
  rw [IntKind.wrap_i64]; omega

theorem ret_int {k : IntKind} {a b : Int} (h : a = b) : Ending.returned (.int k a) = .returned (.int k b) := by rw [h]

end Go.Proofs.YtgklcfipgdbbgaaGreatDoor

/- Rows of cells that copy has written into. -/
namespace Go.Proofs.YtgklcfipgdbbgaaGreatDoor
open Go.RowKit

theorem RowIs.setRow {w : World} {g : Nat} {t : TypeId} {cs : List Value} (h : RowIs w g t cs) (cs' : List Value) : RowIs (w.setRow g cs'.toArray) g t cs' := setRow_heap w g _ _ t _ h
theorem heap_setRow_other (w : World) (g k : Nat) (c : Array Value) (h : k ≠ g) : (w.setRow g c).heap[k]? = w.heap[k]? := by
  unfold World.setRow
  simp only [Array.getElem?_modify]
  rw [if_neg (Ne.symm h)]
theorem size_setRow (w : World) (g : Nat) (c : Array Value) : (w.setRow g c).heap.size = w.heap.size := by
  unfold World.setRow
  simp
theorem below_setRow {B g : Nat} {a w : World} (h : Below B a w) (hp : B ≤ g) (c : Array Value) : Below B a (w.setRow g c) :=
  h.trans ⟨rfl, rfl, rfl, Nat.le_of_eq (size_setRow w g c).symm, fun k hk => heap_setRow_other w g k c (by omega)⟩

@[go_sem] theorem drewN_os' (w : World) (n : Nat) : (w.drewN n).os = w.os := rfl
@[go_sem] theorem drewN_output' (w : World) (n : Nat) : (w.drewN n).output = w.output := rfl
@[go_sem] theorem cell_heap (w : World) (t : _) (d : _) (o : _) (u : _) (p : _) : World.cell? { heap := w.heap, tape := t, drawn := d, os := o, output := u } p = w.cell? p := rfl
@[go_sem] theorem frozen_heap (w : World) (t : _) (d : _) (o : _) (u : _) (p : _) : World.frozen? { heap := w.heap, tape := t, drawn := d, os := o, output := u } p = w.frozen? p := rfl

theorem RowIs.copy {P : Program} {w : World} {g o dLen dCap sLen sCap : Nat} {dT sT ty elem t : TypeId} {cs vs : List Value} {a : Addr} (h : RowIs w g t cs) (hu : P.underlying dT = some (.slice elem)) (hs : (P.info? elem).map (·.size) = some 1)
    (hn : vs.length = Nat.min sLen dLen) (hsrc : ∀ j v, vs[j]? = some v → w.cell? (a.add j) = some v) (hfit : o + vs.length ≤ cs.length) (h1 : ∀ v ∈ vs, v.oneCell' = true) :
    (Builtin.copy_ #[dT, sT] ty #[.slice (some ⟨g, o, none⟩) dLen dCap, .slice (some a) sLen sCap]).run P w = .ok (goInt vs.length) (w.setRow g (cs.take o ++ vs ++ cs.drop (o + vs.length)).toArray) := by
  have := run_copy_row P w dT sT ty elem g o dLen dCap a sLen sCap cs.toArray t vs hu hs h hn hsrc (by simpa using hfit) h1
  simpa using this
theorem RowIs.new2 (w : World) (o : Obj) (cs : List Value) (t : TypeId) : RowIs ((w.alloc o).alloc (.cells cs.toArray t)) (w.heap.size + 1) t cs := by
  have := RowIs.new (w.alloc o) cs t
  have e : (w.alloc o).heap.size = w.heap.size + 1 := by simp
  rw [e] at this
  exact this
theorem made_bytes (n : Nat) : madeCells #[u8v 0] n = (List.replicate n (u8v 0)).toArray := by
  apply Array.ext
  · simp [size_madeCells]
  · intro i h1 h2
    simp [madeCells, Nat.mod_one]

theorem byte_info : ∃ i, Tryz.prog.info? 5 = some i ∧ i.zero = some (u8v 0) ∧ i.size = 1 ∧ i.bytes = 1 := by
  have h : (Tryz.prog.info? 5).map (fun i => (i.zero, i.size, i.bytes)) = some (some (.int .u8 0), 1, 1) := by kernel_rfl
  cases hq : Tryz.prog.info? 5 with
  | none => simp [hq] at h
  | some i =>
    simp [hq] at h
    exact ⟨i, rfl, h.1, h.2.1, h.2.2⟩

theorem make_bytes (l c : Nat) (h : l ≤ c) (hc : (c : Int) ≤ 281474976710656) (w : World) :
    (Instr.makeSlice 56 (.int .i64 l) (.int .i64 c)).run Tryz.prog w = .ok (.slice (some ⟨w.heap.size, 0, none⟩) l c) (w.alloc (.cells (List.replicate c (u8v 0)).toArray 5)) := by
  obtain ⟨i, hi, hz, hs, hb⟩ := byte_info
  have := run_make (P := Tryz.prog) w 56 5 i (u8v 0) (by kernel_rfl) hi hz .i64 .i64 l c (by omega) (by omega) (by rw [hb]; omega) (by omega)
  rw [this, hs, Nat.mul_one, Int.toNat_natCast, Int.toNat_natCast, show (u8v 0).cells = #[u8v 0] from rfl, made_bytes]

/-- A load of many cells: it stands still in a walk and waits for an equation. -/
def rowRead (P : Program) (w : World) (g off n : Nat) : Result (Array Value) := Sem.run P (loadCellsFrom ⟨g, off, none⟩ 0 n #[]) w
@[go_sem ↓ high] theorem run_rowRead {P : Program} {w : World} {g off n : Nat} (_h : 8 < n) : Sem.run P (loadCellsFrom ⟨g, off, none⟩ 0 n #[]) w = rowRead P w g off n := rfl
@[go_sem ↓ high] theorem run_rowRead' {P : Program} {w : World} {g off n : Nat} (_h : 8 < n) : Sem.run P (loadCells ⟨g, off, none⟩ n) w = rowRead P w g off n := rfl

theorem cells_read {P : Program} {w : World} {g off : Nat} {vs : List Value} (h : ∀ j v, vs[j]? = some v → w.cell? ⟨g, off + j, none⟩ = some v) (n : Nat) (hn : vs.length = n) : rowRead P w g off n = .ok vs.toArray w := by
  subst hn
  have := run_loadCells_list (P := P) w ⟨g, off, none⟩ vs (fun j v hv => by
    have hadd : (⟨g, off, none⟩ : Addr).add j = ⟨g, off + j, none⟩ := by unfold Addr.add; split <;> simp_all
    rw [hadd]; exact h j v hv)
  unfold rowRead
  simpa [loadCells] using this
theorem RowIs.loads {P : Program} {w : World} {g : Nat} {t : TypeId} {cs : List Value} (h : RowIs w g t cs) (n : Nat) (hn : cs.length = n) : rowRead P w g 0 n = .ok cs.toArray w :=
  cells_read (fun j v hv => by rw [Nat.zero_add, h.cell]; exact hv) n hn
theorem RowIs.stores {P : Program} {w : World} {g : Nat} {t : TypeId} {cs : List Value} (h : RowIs w g t cs) (vs : List Value) (hn : vs.length = cs.length) (h1 : ∀ v ∈ vs, v.oneCell' = true) : (storeCells ⟨g, 0, none⟩ vs 0).run P w = .ok () (w.setRow g vs.toArray) := by
  have := run_storeCells_at P g 0 t vs 0 cs.toArray w h (by simp; omega) h1
  rw [this]
  simp [hn]

theorem isAgg_int {P : Program} {e : TypeId} (k : IntKind) (h : P.underlying e = some (.int k)) (w : World) : (isAgg e).run P w = .ok false w := by
  unfold isAgg
  rw [Sem.run_bind, run_underlying h w]
  rfl
theorem run_index_agg {P : Program} {t e : TypeId} {n : Nat} {cs : Array Value} (hu : P.underlying t = some (.array n e)) (ha : ∀ w, (isAgg e).run P w = .ok false w) (hs : (P.info? e).map (·.size) = some 1)
    (k : IntKind) (i : Nat) (v : Value) (hi : i < n) (hv : cs[i]? = some v) (w : World) : (Instr.index t (.agg cs) (.int k i)).run P w = .ok v w := by
  cases hq : P.info? e with
  | none => simp [hq] at hs
  | some x =>
    have hx : x.size = 1 := by simpa [hq] using hs
    have h1 : ¬ n ≤ i := by omega
    simp [Instr.index, asIntOf, run_underlying hu, sizeOf, typeInfo, hq, hx, part, ha, hv]
    intro h2
    exact absurd h2 h1

theorem drew_below (w : World) : Below w.heap.size w w.drew := ⟨rfl, rfl, rfl, Nat.le_refl _, fun _ _ => rfl⟩
end Go.Proofs.YtgklcfipgdbbgaaGreatDoor
