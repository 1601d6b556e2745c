/- Shares and whole numbers in memory. -/
import Derived.Test.YtgklcfipgdbbgaaGreatDoorM11
import Derived.Test.YtgklcfipgdbbgaaGreatDoorM1
import Derived.Test.YtgklcfipgdbbgaaGreatDoorM5
namespace Go.Proofs.YtgklcfipgdbbgaaGreatDoor
open Go.RowKit
attribute [-go_sem] Builtin.append_

abbrev iv (x : Int) : Value := .int .i64 x
/-- Shares and numbers as cells. -/
def shC (l : Chart.Rs) : List Value := l.flatMap fun s => [iv s.1, iv s.2]
def inC (l : List Int) : List Value := l.map iv

theorem shC_cons (s : Int × Int) (l : Chart.Rs) : shC (s :: l) = iv s.1 :: iv s.2 :: shC l := rfl
theorem shC_append (l m : Chart.Rs) : shC (l ++ m) = shC l ++ shC m := List.flatMap_append
theorem shC_length : ∀ l : Chart.Rs, (shC l).length = l.length * 2
  | [] => rfl
  | s :: l => by rw [shC_cons, List.length_cons, List.length_cons, shC_length l, List.length_cons]; omega
theorem shC_at : ∀ (l : Chart.Rs) (i : Nat) (h : i < l.length), (shC l)[i * 2]? = some (iv l[i].1) ∧ (shC l)[i * 2 + 1]? = some (iv l[i].2)
  | s :: l, 0, _ => ⟨rfl, rfl⟩
  | s :: l, i + 1, h => by
    have := shC_at l i (by simpa using h)
    rw [shC_cons, show (i + 1) * 2 = i * 2 + 1 + 1 by omega]
    exact this
theorem shC_drop : ∀ (l : Chart.Rs) (k : Nat), (shC l).drop (k * 2) = shC (l.drop k)
  | l, 0 => by simp
  | [], k + 1 => by simp [shC]
  | s :: l, k + 1 => by
    rw [shC_cons, show (k + 1) * 2 = k * 2 + 1 + 1 by omega]
    exact shC_drop l k
theorem shC_take : ∀ (l : Chart.Rs) (k : Nat), (shC l).take (k * 2) = shC (l.take k)
  | l, 0 => by simp [shC]
  | [], k + 1 => by simp [shC]
  | s :: l, k + 1 => by
    rw [shC_cons, show (k + 1) * 2 = k * 2 + 1 + 1 by omega, List.take_succ_cons, List.take_succ_cons, shC_take l k]
    rfl
theorem shC_set : ∀ (l : Chart.Rs) (i : Nat) (y : Int) (h : i < l.length), (shC l).set (i * 2 + 1) (iv y) = shC (l.set i (l[i].1, y))
  | s :: l, 0, y, _ => rfl
  | s :: l, i + 1, y, h => by
    rw [shC_cons, show (i + 1) * 2 + 1 = i * 2 + 1 + 1 + 1 by omega, List.set_cons_succ, List.set_cons_succ, shC_set l i y (by simpa using h)]
    rfl
theorem shC_one (l : Chart.Rs) : ∀ u ∈ shC l, u.oneCell' = true := by
  intro u hu
  unfold shC at hu
  obtain ⟨s, _, hs⟩ := List.mem_flatMap.1 hu
  simp only [List.mem_cons, List.not_mem_nil, or_false] at hs
  rcases hs with rfl | rfl <;> rfl
theorem inC_one (l : List Int) : ∀ u ∈ inC l, u.oneCell' = true := by
  intro u hu
  obtain ⟨s, _, rfl⟩ := List.mem_map.1 hu
  rfl
theorem inC_at (l : List Int) (i : Nat) (h : i < l.length) : (inC l)[i]? = some (iv l[i]) := by
  unfold inC
  rw [List.getElem?_map, List.getElem?_eq_getElem h]
  rfl
theorem inC_length (l : List Int) : (inC l).length = l.length := List.length_map ..

/-- Shares, numbers: in a row of their own; read. -/
def OwnS (B : Nat) (w : World) (v : Value) (l : Chart.Rs) : Prop := w.ownsRow B 36 2 v l.length (shC l)
def OwnI (B : Nat) (w : World) (v : Value) (l : List Int) : Prop := w.ownsRow B 3 1 v l.length (inC l)
def Sv (B : Nat) (w : World) (v : Value) (l : Chart.Rs) : Prop := Vw 2 B w v l.length (shC l)
def Iv (B : Nat) (w : World) (v : Value) (l : List Int) : Prop := Vw 1 B w v l.length (inC l)

theorem OwnS.view {B : Nat} {w : World} {v : Value} {l : Chart.Rs} (h : OwnS B w v l) : Sv w.heap.size w v l := ownR_view h
theorem OwnI.view {B : Nat} {w : World} {v : Value} {l : List Int} (h : OwnI B w v l) : Iv w.heap.size w v l := ownR_view h
theorem OwnS.below {B C : Nat} {w w' : World} {v : Value} {l : Chart.Rs} (h : OwnS B w v l) (hb : Below C w w') (hC : w.heap.size ≤ C) : OwnS B w' v l := ownR_below h hb hC
theorem OwnI.below {B C : Nat} {w w' : World} {v : Value} {l : List Int} (h : OwnI B w v l) (hb : Below C w w') (hC : w.heap.size ≤ C) : OwnI B w' v l := ownR_below h hb hC
theorem OwnS.mono {B C : Nat} {w : World} {v : Value} {l : Chart.Rs} (h : OwnS B w v l) (hb : C ≤ B) : OwnS C w v l := ownR_mono h hb
theorem OwnI.mono {B C : Nat} {w : World} {v : Value} {l : List Int} (h : OwnI B w v l) (hb : C ≤ B) : OwnI C w v l := ownR_mono h hb
theorem OwnS.nil (B : Nat) (w : World) : OwnS B w (.slice none 0 0) [] := ownR_nil B w
theorem OwnI.nil (B : Nat) (w : World) : OwnI B w (.slice none 0 0) [] := ownR_nil B w
theorem Sv.below {B : Nat} {w w' : World} {v : Value} {l : Chart.Rs} (h : Sv B w v l) (hb : Below B w w') : Sv B w' v l := Vw.below h hb
theorem Iv.below {B : Nat} {w w' : World} {v : Value} {l : List Int} (h : Iv B w v l) (hb : Below B w w') : Iv B w' v l := Vw.below h hb
theorem Sv.mono {B B' : Nat} {w : World} {v : Value} {l : Chart.Rs} (h : Sv B w v l) (hb : B ≤ B') : Sv B' w v l := Vw.mono h hb
theorem Iv.mono {B B' : Nat} {w : World} {v : Value} {l : List Int} (h : Iv B w v l) (hb : B ≤ B') : Iv B' w v l := Vw.mono h hb
theorem Sv.nil (B : Nat) (w : World) : Sv B w (.slice none 0 0) [] := Vw.nil B w
theorem Iv.nil (B : Nat) (w : World) : Iv B w (.slice none 0 0) [] := Vw.nil B w

/-- The cells of shares from a place on. -/
def SAt (w : World) (g off : Nat) (l : Chart.Rs) : Prop := ∀ i (h : i < l.length), w.cell? ⟨g, off + i * 2, none⟩ = some (iv l[i].1) ∧ w.cell? ⟨g, off + i * 2 + 1, none⟩ = some (iv l[i].2)
theorem SAt.below {w w' : World} {g off B : Nat} {l : Chart.Rs} (h : SAt w g off l) (hb : Below B w w') (hg : g < B) : SAt w' g off l := fun i hi => by
  rw [(bcell hb).1 g _ hg, (bcell hb).1 g _ hg]
  exact h i hi
theorem Sv.shape {B : Nat} {w : World} {v : Value} {l : Chart.Rs} (h : Sv B w v l) : ∃ a cap, v = .slice a l.length cap ∧ l.length ≤ cap ∧ (l ≠ [] → ∃ g off, a = some ⟨g, off, none⟩ ∧ g < B ∧ SAt w g off l) := by
  obtain ⟨hl, a, cap, hv, hc, hx⟩ := h
  refine ⟨a, cap, hv, hc, fun hn => ?_⟩
  obtain ⟨g, off, ha, hg, hcell⟩ := hx (by
    intro h0
    exact hn (List.eq_nil_of_length_eq_zero h0))
  exact ⟨g, off, ha, hg, fun i hi => ⟨hcell _ _ (shC_at l i hi).1, by rw [Nat.add_assoc]; exact hcell _ _ (shC_at l i hi).2⟩⟩
theorem SAt.view {w : World} {g off cap B : Nat} {l : Chart.Rs} (h : SAt w g off l) (hc : l.length ≤ cap) (hg : g < B) : Sv B w (.slice (some ⟨g, off, none⟩) l.length cap) l := by
  refine ⟨shC_length l, _, cap, rfl, hc, fun _ => ⟨g, off, rfl, hg, fun j u hu => ?_⟩⟩
  have hj : j < l.length * 2 := by
    apply Classical.byContradiction
    intro hh
    rw [List.getElem?_eq_none (by rw [shC_length]; omega)] at hu
    cases hu
  have hi : j / 2 < l.length := by omega
  have h1 := h (j / 2) hi
  have h2 := shC_at l (j / 2) hi
  by_cases he : j % 2 = 0
  · rw [show j / 2 * 2 = j by omega] at h1 h2
    rw [h1.1, ← hu, h2.1]
  · rw [Nat.add_assoc] at h1
    rw [show j / 2 * 2 + 1 = j by omega] at h1 h2
    rw [h1.2, ← hu, h2.2]
theorem Iv.shape {B : Nat} {w : World} {v : Value} {l : List Int} (h : Iv B w v l) : ∃ a cap, v = .slice a l.length cap ∧ l.length ≤ cap ∧ (l ≠ [] → ∃ g off, a = some ⟨g, off, none⟩ ∧ g < B ∧ IntsAt w g off l) := by
  obtain ⟨hl, a, cap, hv, hc, hx⟩ := h
  refine ⟨a, cap, hv, hc, fun hn => ?_⟩
  obtain ⟨g, off, ha, hg, hcell⟩ := hx (by
    intro h0
    exact hn (List.eq_nil_of_length_eq_zero h0))
  exact ⟨g, off, ha, hg, fun i hi => hcell _ _ (inC_at l i hi)⟩

theorem int_info : ∃ i, Tryz.prog.info? 3 = some i ∧ i.zero = some (iv 0) ∧ i.size = 1 ∧ i.bytes = 8 := by
  have h : (Tryz.prog.info? 3).map (fun i => (i.zero, i.size, i.bytes)) = some (some (.int .i64 0), 1, 8) := by kernel_rfl
  cases hq : Tryz.prog.info? 3 with
  | none => simp [hq] at h
  | some i =>
    simp [hq] at h
    exact ⟨i, rfl, h.1, h.2.1, h.2.2⟩
theorem share_info : ∃ i, Tryz.prog.info? 36 = some i ∧ i.zero = some (.agg #[iv 0, iv 0]) ∧ i.size = 2 ∧ i.bytes = 16 := by
  have h : (Tryz.prog.info? 36).map (fun i => (i.zero, i.size, i.bytes)) = some (some (.agg #[.int .i64 0, .int .i64 0]), 2, 16) := by kernel_rfl
  cases hq : Tryz.prog.info? 36 with
  | none => simp [hq] at h
  | some i =>
    simp [hq] at h
    exact ⟨i, rfl, h.1, h.2.1, h.2.2⟩

theorem append_share {B : Nat} {w : World} {v : Value} {l : Chart.Rs} (h : OwnS B w v l) (hB : B ≤ w.heap.size) (hlim : l.length ≤ 1000000) (a y : Int) (t2 : TypeId) :
    ∃ v' w', (Builtin.append_ #[22, 22] 22 #[v, .slice (some ⟨w.heap.size, 0, none⟩) 1 1]).run Tryz.prog (w.alloc (.cells #[.int .i64 a, .int .i64 y] t2)) = .ok v' w' ∧ OwnS B w' v' (l ++ [(a, y)]) ∧ Gr w v w' v' := by
  obtain ⟨i, hi, hz, hs, hb⟩ := share_info
  obtain ⟨v', w', h1, h2, h3⟩ := append_new h hB (by kernel_rfl) hi hz hs hb rfl (by omega) [iv a, iv y] rfl (by intro u hu; simp only [List.mem_cons, List.not_mem_nil, or_false] at hu; rcases hu with rfl | rfl <;> rfl) t2 (by omega) (by omega)
  refine ⟨v', w', h1, ?_, h3⟩
  unfold OwnS
  rw [List.length_append, shC_append]
  exact h2
theorem append_int {B : Nat} {w : World} {v : Value} {l : List Int} (h : OwnI B w v l) (hB : B ≤ w.heap.size) (hlim : l.length ≤ 1000000) (a : Int) (t2 : TypeId) :
    ∃ v' w', (Builtin.append_ #[41, 41] 41 #[v, .slice (some ⟨w.heap.size, 0, none⟩) 1 1]).run Tryz.prog (w.alloc (.cells #[.int .i64 a] t2)) = .ok v' w' ∧ OwnI B w' v' (l ++ [a]) ∧ Gr w v w' v' := by
  obtain ⟨i, hi, hz, hs, hb⟩ := int_info
  obtain ⟨v', w', h1, h2, h3⟩ := append_new h hB (by kernel_rfl) hi hz hs hb rfl (by omega) [iv a] rfl (by intro u hu; simp only [List.mem_cons, List.not_mem_nil, or_false] at hu; subst hu; rfl) t2 (by omega) (by omega)
  refine ⟨v', w', h1, ?_, h3⟩
  unfold OwnI inC
  rw [List.length_append, List.map_append]
  exact h2
theorem append_shares {B C : Nat} {w : World} {v x : Value} {l m : Chart.Rs} (h : OwnS B w v l) (hB : B ≤ w.heap.size) (hx : Sv C w x m) (hlim : l.length + m.length ≤ 1000000) :
    ∃ v' w', (Builtin.append_ #[22, 22] 22 #[v, x]).run Tryz.prog w = .ok v' w' ∧ OwnS B w' v' (l ++ m) ∧ Gr w v w' v' := by
  obtain ⟨i, hi, hz, hs, hb⟩ := share_info
  obtain ⟨v', w', h1, h2, h3⟩ := append_view h hB hx (by kernel_rfl) hi hz hs hb rfl (by omega) (shC_one m) (by omega) (by omega)
  refine ⟨v', w', h1, ?_, h3⟩
  unfold OwnS
  rw [List.length_append, shC_append]
  exact h2
theorem Gr.belowS {B : Nat} {w w' : World} {v v' : Value} {l : Chart.Rs} (h : Gr w v w' v') (ho : OwnS B w v l) (hB : B ≤ w.heap.size) : Below B w w' := h.belowR ho hB
theorem Gr.belowI {B : Nat} {w w' : World} {v v' : Value} {l : List Int} (h : Gr w v w' v') (ho : OwnI B w v l) (hB : B ≤ w.heap.size) : Below B w w' := h.belowR ho hB
theorem OwnS.empty {B : Nat} (w : World) (hB : B ≤ w.heap.size) (t2 : TypeId) (h : t2 = 36) : OwnS B (w.alloc (.cells #[] t2)) (.slice (some ⟨w.heap.size, 0, none⟩) 0 0) [] := by
  subst h
  exact World.ownsRow_lit w #[] 0 hB (by unfold maxLen; omega) rfl
theorem OwnS.lit {B : Nat} (w : World) (hB : B ≤ w.heap.size) (l : Chart.Rs) (hl : l.length ≤ 1000) (n : Nat) (hn : l.length = n) (cs : Array Value) (hc : cs = (shC l).toArray) : OwnS B (w.alloc (.cells cs 36)) (.slice (some ⟨w.heap.size, 0, none⟩) n n) l := by
  subst hn
  subst hc
  exact World.ownsRow_lit w (shC l).toArray l.length hB (by unfold maxLen; omega) (by simp [shC_length])
end Go.Proofs.YtgklcfipgdbbgaaGreatDoor
