/- Capsules read as data. -/
import Derived.Test.YtejjincnghmbbaaGreatDoorM20
import Derived.Test.YtejjincnghmbbaaGreatDoorM26
namespace Go.Proofs.YtejjincnghmbbaaGreatDoor
open Go.RowKit Go.ChangeShapes

theorem capV_length' (a b : Int) {pad : List UInt8} (h : pad.length = 32) : (capV a b pad).length = 34 := by simp [capV, h]

section
variable {H : Type} {enc : TypeId × Value → H} {w : World} {base : Nat} {spare : Nat → Bool} {held : Bool}

/-- A capsule as data. -/
def capD (a b : Int) (pad : List UInt8) : DataW H := .agg [.lit (.int .i64 a), .lit (.int .i64 b), byteD pad]

set_option maxRecDepth 20000 in
theorem open_capA {v : Value} {d : DataW H} {p : List MemPlace} {r : Reach} {b0 : Nat} (hv : Value.okWide Tryz.prog w r b0 25 v) (h : DataW.Trod enc Tryz.prog w base spare held 25 v d p) :
    ∃ (a b : Int) (pad : List UInt8), pad.length = 32 ∧ v = .agg (capV a b pad).toArray ∧ d = capD a b pad ∧ p = [] ∧ (Lit.int .i64 a).wf = true ∧ (Lit.int .i64 b).wf = true := by
  obtain ⟨cs, rfl⟩ := agg_cells (by rw [Tryz.underlying25]) hv
  obtain ⟨fuel, h⟩ := h
  have hi : Tryz.prog.underlying 3 = some (.int .i64) := by kernel_rfl
  obtain ⟨y0, y1, y2, n, hx, hl, h0, h1, h2⟩ := Deep.trod_struct3 Tryz.underlying25 h
  obtain ⟨a, e0, g0, w0⟩ := DataW.trod_int hi h0
  obtain ⟨b, e1, g1, w1⟩ := DataW.trod_int hi h1
  obtain ⟨l, hl1, hl2, hl3⟩ := open_bytesN (n := 32) (by kernel_rfl) (by kernel_rfl) h2
  have hlen : cs.toList.length = 34 := hl.trans (by kernel_rfl)
  refine ⟨a, b, l, hl1, ?_, ?_, ?_, w0, w1⟩
  · have e0' : cs.toList.take 1 = [.int .i64 a] := e0
    have e1' : (cs.toList.drop 1).take 1 = [.int .i64 b] := e1
    have e2' : (cs.toList.drop 2).take 32 = l.map u8v := hl2
    have hd : (cs.toList.drop 2).take 32 = cs.toList.drop 2 := List.take_of_length_le (by rw [List.length_drop]; omega)
    rw [hd] at e2'
    have : cs.toList = capV a b l := by
      have h1 : cs.toList = cs.toList.take 1 ++ ((cs.toList.drop 1).take 1 ++ (cs.toList.drop 1).drop 1) := by
        rw [List.take_append_drop, List.take_append_drop]
      rw [h1, e0', e1', List.drop_drop, e2']
      rfl
    rw [← this, Array.toArray_toList]
  · have := congrArg Prod.fst hx
    simp only at this
    rw [this, g0, g1, hl3]
    rfl
  · have := congrArg Prod.snd hx
    simp only at this
    rw [this, g0, g1, hl3]
    rfl

set_option maxRecDepth 20000 in
theorem shut_capA {a b : Int} {pad : List UInt8} (hp : pad.length = 32) (ha : (Lit.int .i64 a).wf = true) (hb : (Lit.int .i64 b).wf = true) :
    DataW.Trod enc Tryz.prog w base spare held 25 (.agg (capV a b pad).toArray) (capD a b pad) [] := by
  have hi : Tryz.prog.underlying 3 = some (.int .i64) := by kernel_rfl
  refine ⟨3, ?_⟩
  have h2 : DataW.trod enc Tryz.prog w base spare held 2 23 (((capV a b pad).drop 2).take 32) = some (byteD pad, []) := by
    have : ((capV a b pad).drop 2).take 32 = pad.map u8v := List.take_of_length_le (by show (pad.map u8v).length ≤ 32; rw [List.length_map, hp]; exact Nat.le_refl _)
    rw [this]
    exact trod_bytes (by kernel_rfl) (by kernel_rfl) pad hp 0
  have := Deep.trod_struct3_mk (enc := enc) (w := w) (base := base) (spare := spare) (held := held) (cs := capV a b pad) Tryz.underlying25 ((capV_length' a b hp).trans (by kernel_rfl)) (trod_int_mk 1 hi ha) (trod_int_mk 1 hi hb) h2
  exact this
end
end Go.Proofs.YtejjincnghmbbaaGreatDoor
