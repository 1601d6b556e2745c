/- Slices of shares and of bools among the arguments: what they read as. -/
import Derived.Deep.Slices
import Derived.Carry
import Derived.Test.YtgklcfipgdbbgaaGreatDoorM12
import Derived.Test.YtgklcfipgdbbgaaGreatDoorM26
namespace Go.Proofs.YtgklcfipgdbbgaaGreatDoor
open Go.RowKit Go.ChangeShapes Go.WideShapes

theorem plain_addr {w : World} {a : Addr} {v : Value} (h : w.cell? a = some v) : a = ⟨a.block, a.off, none⟩ := by
  obtain ⟨b, o, s⟩ := a
  have hs : s = none := World.cell?_spot h
  subst hs
  rfl

set_option maxRecDepth 20000 in
theorem open_shares {H : Type} {enc : TypeId × Value → H} {W : World} {v : Value} {d : DataW H} {p : List MemPlace} {r : Reach} {b0 : Nat} (hv : Value.okWide Tryz.prog W r b0 22 v) (h : DataW.Trod enc Tryz.prog W 0 (fun _ => true) true 22 v d p) :
    ∃ l : Chart.Rs, Sv W.heap.size W v l ∧ l.length ≤ maxLen := by
  have hi : Tryz.prog.underlying 3 = some (.int .i64) := by kernel_rfl
  have hc1 : Tryz.prog.cellsOf 3 = 1 := by kernel_rfl
  have hc2 : Tryz.prog.cellsOf 36 = 2 := by kernel_rfl
  obtain ⟨a0, len, cap, rfl⟩ := okWide_slice Tryz.underlying22 hv
  obtain ⟨fuel, hf⟩ := h
  rcases Deep.open_slice Tryz.underlying22 hf with ⟨hcs, _⟩ | ⟨a, len', cap', m, n, D, Pl, hcs, _, hl, hm, hmm, _, hx⟩
  · simp [Value.cells] at hcs
    obtain ⟨rfl, rfl, rfl⟩ := hcs
    exact ⟨[], Sv.nil _ _, Nat.zero_le _⟩
  · simp [Value.cells] at hcs
    obtain ⟨rfl, rfl, rfl⟩ := hcs
    have hmm' : m = cap := hmm
    have key : ∀ i, i < len → ∃ s : Int × Int, W.cell? (a.add (i * 2)) = some (iv s.1) ∧ W.cell? ((a.add (i * 2)).add 1) = some (iv s.2) := by
      intro i hi'
      obtain ⟨cs', h1, h2⟩ := hx i (by omega)
      rw [hc2] at h1
      obtain ⟨_, hl2, hcell⟩ := World.cells?_some h1
      obtain ⟨y0, y1, k, _, _, h3, h4⟩ := trod_struct2 Tryz.underlying36 h2
      obtain ⟨x, e0, _, _⟩ := DataW.trod_int hi h3
      obtain ⟨y, e1, _, _⟩ := DataW.trod_int hi h4
      match cs', hl2 with
      | [c0, c1], _ =>
        have e0' : [c0] = [iv x] := e0
        have e1' : [c1] = [iv y] := e1
        have g0 := hcell 0 (by omega)
        have g1 := hcell 1 (by omega)
        simp only [List.cons.injEq, and_true] at e0' e1'
        subst e0'
        subst e1'
        refine ⟨(x, y), ?_, g1⟩
        simpa [Addr.add] using g0
    obtain ⟨f, hff⟩ := Deep.choose_lt key
    refine ⟨(List.range len).map f, ?_, by simp; omega⟩
    have hlen : ((List.range len).map f).length = len := by simp
    refine ⟨by rw [hlen, shC_length, hlen], some a, cap, by rw [hlen], by rw [hlen]; exact hl, fun hn => ?_⟩
    rw [hlen] at hn
    have hp := plain_addr (hff 0 (by omega)).1
    rw [Nat.zero_mul] at hp
    have hp' : a = ⟨a.block, a.off, none⟩ := by simpa [Addr.add] using hp
    have hS : SAt W a.block a.off ((List.range len).map f) := by
      intro i hi'
      rw [hlen] at hi'
      have h1 := hff i hi'
      rw [hp', add_plain, add_plain] at h1
      simp only [List.getElem_map, List.getElem_range]
      exact h1
    refine ⟨a.block, a.off, by rw [← hp'], ?_, ?_⟩
    · have h1 := (hS 0 (by rw [hlen]; omega)).1
      exact cell_lt h1
    · have hb : a.block < W.heap.size := cell_lt (hS 0 (by rw [hlen]; omega)).1
      have hv := (hS.view (cap := cap) (B := W.heap.size) (by rw [hlen]; exact hl) hb).ex
      obtain ⟨a2, c2, e2, _, h2⟩ := hv
      obtain ⟨g3, o3, e3, _, h3⟩ := h2 (by rw [hlen]; exact hn)
      rw [e3] at e2
      simp only [Value.slice.injEq, Option.some.injEq, Addr.mk.injEq, and_true] at e2
      obtain ⟨⟨rfl, rfl⟩, _⟩ := e2
      exact h3

theorem laidOut : laidOutB Tryz.prog = true := by kernel_rfl
/-- An argument reads behind the call as it did before. -/
theorem stays {H : Type} {enc : TypeId × Value → H} {t : TypeId} (hr : Tryz.prog.readableRec t = true) (hrow : t < Tryz.prog.types.size) {W W' : World} {v : Value} {d : DataW H} {ps : List MemPlace} (h : DataW.Trod enc Tryz.prog W 0 (fun _ => true) true t v d ps) (hb : Below W.heap.size W W')
    (hlt : ∀ x ∈ ps, x.block < W.heap.size) {sp : Nat → Bool} (hs : ∀ p ∈ ps, sp p.block = true) : DataW.Trod enc Tryz.prog W' 0 sp true t v d ps :=
  WideElems.Trod_stays laidOut hr hrow h (fun x hx => hb.same (hlt x hx)) hs
end Go.Proofs.YtgklcfipgdbbgaaGreatDoor
