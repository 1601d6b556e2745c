/- Slices of shares and of bools among the arguments: what they read as. -/
import Derived.Deep.Slices
import Derived.Carry
import Derived.Test.YtgklcfipgdbbgaaDoorM12
import Derived.Test.YtgklcfipgdbbgaaDoorM26
namespace Go.Proofs.YtgklcfipgdbbgaaDoor
open Go.RowKit Go.ChangeShapes Go.WideShapes

theorem plain_addr {w : World} {a : Addr} {v : Value} (h : w.cell? a = some v) : a = ⟨a.block, a.off, none⟩ := by
  obtain ⟨b, o, s⟩ := a
  have hs : s = none := World.cell?_spot h
  subst hs
  rfl

set_option maxRecDepth 20000 in
theorem open_shares {H : Type} {enc : TypeId × Value → H} {W : World} {v : Value} {d : DataW H} {p : List MemPlace} {r : Reach} {b0 : Nat} (hv : Value.okWide Tryd.prog W r b0 22 v) (h : DataW.Trod enc Tryd.prog W 0 (fun _ => true) true 22 v d p) :
    ∃ l : Chart.Rs, Sv W.heap.size W v l ∧ l.length ≤ maxLen := by
  have hi : Tryd.prog.underlying 3 = some (.int .i64) := by kernel_rfl
  have hc1 : Tryd.prog.cellsOf 3 = 1 := by kernel_rfl
  have hc2 : Tryd.prog.cellsOf 42 = 2 := by kernel_rfl
  obtain ⟨a0, len, cap, rfl⟩ := okWide_slice Tryd.underlying22 hv
  obtain ⟨fuel, hf⟩ := h
  rcases Deep.open_slice Tryd.underlying22 hf with ⟨hcs, _⟩ | ⟨a, len', cap', m, n, D, Pl, hcs, _, hl, hm, hmm, _, hx⟩
  · simp [Value.cells] at hcs
    obtain ⟨rfl, rfl, rfl⟩ := hcs
    exact ⟨[], Sv.nil _ _, Nat.zero_le _⟩
  · simp [Value.cells] at hcs
    obtain ⟨rfl, rfl, rfl⟩ := hcs
    have hmm' : m = cap := hmm
    have key : ∀ i, i < len → ∃ s : Int × Int, W.cell? (a.add (i * 2)) = some (iv s.1) ∧ W.cell? ((a.add (i * 2)).add 1) = some (iv s.2) := by
      intro i hi'
      obtain ⟨cs', h1, h2⟩ := hx i (by omega)
      rw [hc2] at h1
      obtain ⟨_, hl2, hcell⟩ := World.cells?_some h1
      obtain ⟨y0, y1, k, _, _, h3, h4⟩ := trod_struct2 Tryd.underlying42 h2
      obtain ⟨x, e0, _, _⟩ := DataW.trod_int hi h3
      obtain ⟨y, e1, _, _⟩ := DataW.trod_int hi h4
      match cs', hl2 with
      | [c0, c1], _ =>
        have e0' : [c0] = [iv x] := e0
        have e1' : [c1] = [iv y] := e1
        have g0 := hcell 0 (by omega)
        have g1 := hcell 1 (by omega)
        simp only [List.cons.injEq, and_true] at e0' e1'
        subst e0'
        subst e1'
        refine ⟨(x, y), ?_, g1⟩
        simpa [Addr.add] using g0
    obtain ⟨f, hff⟩ := Deep.choose_lt key
    refine ⟨(List.range len).map f, ?_, by simp; omega⟩
    have hlen : ((List.range len).map f).length = len := by simp
    refine ⟨by rw [hlen, shC_length, hlen], some a, cap, by rw [hlen], by rw [hlen]; exact hl, fun hn => ?_⟩
    rw [hlen] at hn
    have hp := plain_addr (hff 0 (by omega)).1
    rw [Nat.zero_mul] at hp
    have hp' : a = ⟨a.block, a.off, none⟩ := by simpa [Addr.add] using hp
    have hS : SAt W a.block a.off ((List.range len).map f) := by
      intro i hi'
      rw [hlen] at hi'
      have h1 := hff i hi'
      rw [hp', add_plain, add_plain] at h1
      simp only [List.getElem_map, List.getElem_range]
      exact h1
    refine ⟨a.block, a.off, by rw [← hp'], ?_, ?_⟩
    · have h1 := (hS 0 (by rw [hlen]; omega)).1
      exact cell_lt h1
    · have hb : a.block < W.heap.size := cell_lt (hS 0 (by rw [hlen]; omega)).1
      have hv := (hS.view (cap := cap) (B := W.heap.size) (by rw [hlen]; exact hl) hb).ex
      obtain ⟨a2, c2, e2, _, h2⟩ := hv
      obtain ⟨g3, o3, e3, _, h3⟩ := h2 (by rw [hlen]; exact hn)
      rw [e3] at e2
      simp only [Value.slice.injEq, Option.some.injEq, Addr.mk.injEq, and_true] at e2
      obtain ⟨⟨rfl, rfl⟩, _⟩ := e2
      exact h3

/-- A slice of bools below a bound. -/
def Bv (B : Nat) (w : World) (v : Value) (l : List Bool) : Prop := Vw 1 B w v l.length (l.map .bool)

set_option maxRecDepth 20000 in
theorem open_bools {H : Type} {enc : TypeId × Value → H} {W : World} {v : Value} {d : DataW H} {p : List MemPlace} {r : Reach} {b0 : Nat} (hv : Value.okWide Tryd.prog W r b0 34 v) (h : DataW.Trod enc Tryd.prog W 0 (fun _ => true) true 34 v d p) :
    ∃ l : List Bool, Bv W.heap.size W v l ∧ l.length ≤ maxLen := by
  have hb : Tryd.prog.underlying 4 = some .bool := by kernel_rfl
  have hc1 : Tryd.prog.cellsOf 4 = 1 := by kernel_rfl
  obtain ⟨a0, len, cap, rfl⟩ := okWide_slice Tryd.underlying34 hv
  obtain ⟨fuel, hf⟩ := h
  rcases Deep.open_slice1 Tryd.underlying34 hc1 hf with ⟨hcs, _⟩ | ⟨a, len', cap', m, n, V, D, Pl, hcs, _, hl, hm, hmm, _, hx⟩
  · simp [Value.cells] at hcs
    obtain ⟨rfl, rfl, rfl⟩ := hcs
    exact ⟨[], Vw.nil _ _, Nat.zero_le _⟩
  · simp [Value.cells] at hcs
    obtain ⟨rfl, rfl, rfl⟩ := hcs
    have hmm' : m = cap := hmm
    have key : ∀ i, i < len → ∃ s : Bool, W.cell? (a.add i) = some (.bool s) := by
      intro i hi'
      obtain ⟨h1, h2⟩ := hx i (by omega)
      obtain ⟨b, e0, _⟩ := DataW.trod_bool hb h2
      simp only [List.cons.injEq, and_true] at e0
      exact ⟨b, by rw [h1, e0]⟩
    obtain ⟨f, hff⟩ := Deep.choose_lt key
    refine ⟨(List.range len).map f, ?_, by simp; omega⟩
    have hlen : ((List.range len).map f).length = len := by simp
    refine ⟨by simp, some a, cap, by rw [hlen], by rw [hlen]; exact hl, fun hn => ?_⟩
    rw [hlen] at hn
    have hp := plain_addr (hff 0 (by omega))
    have hp' : a = ⟨a.block, a.off, none⟩ := by simpa [Addr.add] using hp
    refine ⟨a.block, a.off, by rw [← hp'], ?_, ?_⟩
    · have h1 := hff 0 (by omega)
      rw [hp', add_plain] at h1
      exact cell_lt h1
    · intro j u hu
      have hj : j < len := by
        apply Classical.byContradiction
        intro hh
        rw [List.getElem?_eq_none (by simp; omega)] at hu
        cases hu
      have h1 := hff j hj
      rw [hp', add_plain] at h1
      rw [h1, ← hu]
      simp [hj]
theorem Bv.below {B : Nat} {w w' : World} {v : Value} {l : List Bool} (h : Bv B w v l) (hb : Below B w w') : Bv B w' v l := Vw.below h hb
theorem Bv.shape {B : Nat} {w : World} {v : Value} {l : List Bool} (h : Bv B w v l) : ∃ a cap, v = .slice a l.length cap ∧ l.length ≤ cap ∧ (l ≠ [] → ∃ g off, a = some ⟨g, off, none⟩ ∧ g < B ∧ ∀ i (hi : i < l.length), w.cell? ⟨g, off + i, none⟩ = some (.bool l[i])) := by
  obtain ⟨hl, a, cap, hv, hc, hx⟩ := h
  refine ⟨a, cap, hv, hc, fun hn => ?_⟩
  obtain ⟨g, off, ha, hg, hcell⟩ := hx (by
    intro h0
    exact hn (List.eq_nil_of_length_eq_zero h0))
  exact ⟨g, off, ha, hg, fun i hi => hcell _ _ (by rw [List.getElem?_map, List.getElem?_eq_getElem hi]; rfl)⟩

theorem laidOut : laidOutB Tryd.prog = true := by kernel_rfl
/-- An argument reads behind the call as it did before. -/
theorem stays {H : Type} {enc : TypeId × Value → H} {t : TypeId} (hr : Tryd.prog.readableRec t = true) (hrow : t < Tryd.prog.types.size) {W W' : World} {v : Value} {d : DataW H} {ps : List MemPlace} (h : DataW.Trod enc Tryd.prog W 0 (fun _ => true) true t v d ps) (hb : Below W.heap.size W W')
    (hlt : ∀ x ∈ ps, x.block < W.heap.size) {sp : Nat → Bool} (hs : ∀ p ∈ ps, sp p.block = true) : DataW.Trod enc Tryd.prog W' 0 sp true t v d ps :=
  WideElems.Trod_stays laidOut hr hrow h (fun x hx => hb.same (hlt x hx)) hs
end Go.Proofs.YtgklcfipgdbbgaaDoor
