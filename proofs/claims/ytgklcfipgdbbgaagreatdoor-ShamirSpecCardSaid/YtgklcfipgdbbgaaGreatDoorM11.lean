/- Slices of any elements: in a row of their own, or merely read. -/
import Derived.Laws.OwnMore
import Derived.Test.YtgklcfipgdbbgaaGreatDoorM10
namespace Go.Proofs.YtgklcfipgdbbgaaGreatDoor
open Go.RowKit
attribute [-go_sem] Builtin.append_

section
variable {e : TypeId} {size : Nat}

theorem ownR_below {B C : Nat} {w w' : World} {v : Value} {n : Nat} {xs : List Value} (h : w.ownsRow B e size v n xs) (hb : Below C w w') (hC : w.heap.size ≤ C) : w'.ownsRow B e size v n xs := by
  obtain ⟨h1, h2 | ⟨g, cap, cur, rfl, hg, hc, hcap, hm, hs, ht⟩⟩ := h
  · exact ⟨h1, .inl h2⟩
  · have hr : RowIs w g e cur.toList := hc
    exact ⟨h1, .inr ⟨g, cap, cur, rfl, hg, (hb.block g (Nat.lt_of_lt_of_le hr.lt hC)).trans hc, hcap, hm, hs, ht⟩⟩
theorem ownR_mono {B C : Nat} {w : World} {v : Value} {n : Nat} {xs : List Value} (h : w.ownsRow B e size v n xs) (hb : C ≤ B) : w.ownsRow C e size v n xs := by
  obtain ⟨h1, h2 | ⟨g, cap, cur, rfl, hg, r⟩⟩ := h
  · exact ⟨h1, .inl h2⟩
  · exact ⟨h1, .inr ⟨g, cap, cur, rfl, Nat.le_trans hb hg, r⟩⟩
theorem ownR_nil (B : Nat) (w : World) : w.ownsRow B e size (.slice none 0 0) 0 [] := ⟨by simp, .inl ⟨rfl, rfl⟩⟩
theorem ownR_block {B : Nat} {w : World} {v : Value} {n : Nat} {xs : List Value} (h : w.ownsRow B e size v n xs) : ∀ g, v.ownBlock = some g → B ≤ g := by
  obtain ⟨_, ⟨rfl, _⟩ | ⟨g, cap, cur, rfl, hg, _⟩⟩ := h
  · intro g hg; cases hg
  · intro k hk
    cases hk
    exact hg
theorem ownR_lt {B : Nat} {w : World} {v : Value} {n : Nat} {xs : List Value} (h : w.ownsRow B e size v n xs) : ∀ g, v.ownBlock = some g → g < w.heap.size := by
  obtain ⟨_, ⟨rfl, _⟩ | ⟨g, cap, cur, rfl, hg, hc, _⟩⟩ := h
  · intro g hg; cases hg
  · intro k hk
    cases hk
    have hr : RowIs w g e cur.toList := hc
    exact hr.lt
theorem Gr.belowR {B : Nat} {w w' : World} {v v' : Value} {n : Nat} {xs : List Value} (h : Gr w v w' v') (ho : w.ownsRow B e size v n xs) (hB : B ≤ w.heap.size) : Below B w w' :=
  ⟨h.os, h.tape, h.output, h.size, fun k hk => h.block k (by omega) (fun he => by have := ownR_block ho k he; omega)⟩
/-- What is owned from its own bound on is kept where something else grows. -/
theorem ownR_gr {B C : Nat} {w w' : World} {v u u' : Value} {n m : Nat} {xs ys : List Value} {e2 : TypeId} {size2 : Nat} (h : w.ownsRow B e size v n xs) (hg : Gr w u w' u') (_hu : w.ownsRow C e2 size2 u m ys) (hne : ∀ g, v.ownBlock = some g → u.ownBlock ≠ some g) : w'.ownsRow B e size v n xs := by
  obtain ⟨h1, h2 | ⟨g, cap, cur, rfl, hb, hc, hcap, hm, hs, ht⟩⟩ := h
  · exact ⟨h1, .inl h2⟩
  · have hr : RowIs w g e cur.toList := hc
    exact ⟨h1, .inr ⟨g, cap, cur, rfl, hb, (hg.block g hr.lt (hne g rfl)).trans hc, hcap, hm, hs, ht⟩⟩

/-- A slice that reads as these cells, below a bound. -/
structure Vw (size B : Nat) (w : World) (v : Value) (n : Nat) (xs : List Value) : Prop where
  len : xs.length = n * size
  ex : ∃ (a : Option Addr) (cap : Nat), v = .slice a n cap ∧ n ≤ cap ∧ (n ≠ 0 → ∃ g off, a = some ⟨g, off, none⟩ ∧ g < B ∧ ∀ j u, xs[j]? = some u → w.cell? ⟨g, off + j, none⟩ = some u)

theorem Vw.below {B : Nat} {w w' : World} {v : Value} {n : Nat} {xs : List Value} (h : Vw size B w v n xs) (hb : Below B w w') : Vw size B w' v n xs := by
  obtain ⟨a, cap, hv, hc, hx⟩ := h.ex
  refine ⟨h.len, a, cap, hv, hc, fun hl => ?_⟩
  obtain ⟨g, off, ha, hg, hby⟩ := hx hl
  exact ⟨g, off, ha, hg, fun j u hu => by rw [(bcell hb).1 g _ hg]; exact hby j u hu⟩
theorem Vw.mono {B B' : Nat} {w : World} {v : Value} {n : Nat} {xs : List Value} (h : Vw size B w v n xs) (hb : B ≤ B') : Vw size B' w v n xs := by
  obtain ⟨a, cap, hv, hc, hx⟩ := h.ex
  refine ⟨h.len, a, cap, hv, hc, fun hl => ?_⟩
  obtain ⟨g, off, ha, hg, hby⟩ := hx hl
  exact ⟨g, off, ha, Nat.lt_of_lt_of_le hg hb, hby⟩
theorem Vw.nil (B : Nat) (w : World) : Vw size B w (.slice none 0 0) 0 [] := ⟨by simp, none, 0, rfl, Nat.le_refl _, fun h => absurd rfl h⟩
theorem ownR_view {B : Nat} {w : World} {v : Value} {n : Nat} {xs : List Value} (h : w.ownsRow B e size v n xs) : Vw size w.heap.size w v n xs := by
  have h0 := h
  obtain ⟨h1, ⟨rfl, hn⟩ | ⟨g, cap, cur, rfl, hg, hc, hcap, _, hs, ht⟩⟩ := h
  · subst hn
    have : xs = [] := List.eq_nil_of_length_eq_zero (by omega)
    subst this
    exact Vw.nil _ _
  · have hr : RowIs w g e cur.toList := hc
    refine ⟨h1, some ⟨g, 0, none⟩, cap, rfl, hcap, fun _ => ⟨g, 0, rfl, hr.lt, fun j u hu => ?_⟩⟩
    have hj : j < xs.length := by
      apply Classical.byContradiction
      intro hh
      rw [List.getElem?_eq_none (by omega)] at hu
      cases hu
    rw [Nat.zero_add, h0.cellAt j (by omega)]
    exact hu

/-- One element that is laid anew is appended. -/
theorem append_new {B : Nat} {w : World} {v : Value} {n : Nat} {xs : List Value} (h : w.ownsRow B e size v n xs) (hB : B ≤ w.heap.size) {t : TypeId} {i : TypeInfo} {z : Value} {bytes : Nat} (ht : Tryz.prog.underlying t = some (.slice e)) (hi : Tryz.prog.info? e = some i) (hz : i.zero = some z)
    (hsize : i.size = size) (hby : i.bytes = bytes) (hzs : z.cells.size = size) (hsz : 0 < size) (cs : List Value) (hcs : cs.length = size) (h1 : ∀ u ∈ cs, u.oneCell' = true) (t2 : TypeId) (hlim : (n + 1) * bytes ≤ 140737488355328) (hlim2 : n + 1 ≤ 140737488355328) :
    ∃ v' w', (Builtin.append_ #[t, t] t #[v, .slice (some ⟨w.heap.size, 0, none⟩) 1 1]).run Tryz.prog (w.alloc (.cells cs.toArray t2)) = .ok v' w' ∧ w'.ownsRow B e size v' (n + 1) (xs ++ cs) ∧ Gr w v w' v' := by
  have hr : RowIs (w.alloc (.cells cs.toArray t2)) w.heap.size t2 cs := RowIs.new w cs t2
  have hb : Below w.heap.size w (w.alloc (.cells cs.toArray t2)) := (Below.refl _ w).alloc (Nat.le_refl _) _
  obtain ⟨v', w', h2, h3, h4, _, h6⟩ := run_append_own_at (P := Tryz.prog) (w.alloc (.cells cs.toArray t2)) B t t e i z size bytes ht hi hz hsize hby hzs hsz v n xs (ownR_below h hb (Nat.le_refl _)) ⟨w.heap.size, 0, none⟩ 1 1 cs (by omega)
    (fun j u hj => by
      have hadd : (⟨w.heap.size, 0, none⟩ : Addr).add j = ⟨w.heap.size, 0 + j, none⟩ := by unfold Addr.add; split <;> simp_all
      rw [hadd, Nat.zero_add, hr.cell j]
      exact hj) h1 (by unfold maxLen; omega) hlim (Nat.le_trans hB hb.size)
  refine ⟨v', w', h2, h3, (Gr.of_below v hb).trans ⟨h4.os, h4.tape, h4.output, h4.size, fun k hk hn => h4.block k hk (fun he => hn he.symm), fun g hg => ?_⟩⟩
  rcases h6 with h6 | h6
  · exact .inl (h6 ▸ hg)
  · rw [h6] at hg
    cases hg
    exact .inr (Nat.le_refl _)

/-- All elements of another slice are appended. -/
theorem append_view {B C : Nat} {w : World} {v x : Value} {n m : Nat} {xs ys : List Value} (h : w.ownsRow B e size v n xs) (hB : B ≤ w.heap.size) (hx : Vw size C w x m ys) {t : TypeId} {i : TypeInfo} {z : Value} {bytes : Nat} (ht : Tryz.prog.underlying t = some (.slice e)) (hi : Tryz.prog.info? e = some i) (hz : i.zero = some z)
    (hsize : i.size = size) (hby : i.bytes = bytes) (hzs : z.cells.size = size) (hsz : 0 < size) (h1 : ∀ u ∈ ys, u.oneCell' = true) (hlim : (n + m) * bytes ≤ 140737488355328) (hlim2 : n + m ≤ 140737488355328) :
    ∃ v' w', (Builtin.append_ #[t, t] t #[v, x]).run Tryz.prog w = .ok v' w' ∧ w'.ownsRow B e size v' (n + m) (xs ++ ys) ∧ Gr w v w' v' := by
  obtain ⟨hl, a, cap, rfl, hc, hxx⟩ := hx
  by_cases hm : m = 0
  · subst hm
    have : ys = [] := List.eq_nil_of_length_eq_zero (by omega)
    subst this
    refine ⟨v, w, ?_, by simpa using h, Gr.refl _ _⟩
    have hf : ∀ k w, (Builtin.firstCells k 0 (Value.slice a 0 cap)).run Tryz.prog w = .ok #[] w := by
      intro k w
      cases a with
      | none => rfl
      | some a => simp [Builtin.firstCells, loadCells, loadCellsFrom]
    rcases h.2 with ⟨rfl, rfl⟩ | ⟨g, cap', cur, rfl, _, _, hnc, _⟩
    · simp [Builtin.append_, run_underlying ht, sizeOf, typeInfo, hi, Builtin.lenOf, hf]
    · simp [Builtin.append_, run_underlying ht, sizeOf, typeInfo, hi, Builtin.lenOf, hf, hnc, storeCells]
  · obtain ⟨g, off, rfl, _, hcell⟩ := hxx hm
    obtain ⟨v', w', h2, h3, h4, _, h6⟩ := run_append_own_at (P := Tryz.prog) w B t t e i z size bytes ht hi hz hsize hby hzs hsz v n xs h ⟨g, off, none⟩ m cap ys hl
      (fun j u hj => by
        have hadd : (⟨g, off, none⟩ : Addr).add j = ⟨g, off + j, none⟩ := by unfold Addr.add; split <;> simp_all
        rw [hadd]
        exact hcell j u hj) h1 (by unfold maxLen; omega) hlim hB
    refine ⟨v', w', h2, h3, ⟨h4.os, h4.tape, h4.output, h4.size, fun k hk hn => h4.block k hk (fun he => hn he.symm), fun g hg => ?_⟩⟩
    rcases h6 with h6 | h6
    · exact .inl (h6 ▸ hg)
    · rw [h6] at hg
      cases hg
      exact .inr (Nat.le_refl _)
end
end Go.Proofs.YtgklcfipgdbbgaaGreatDoor
