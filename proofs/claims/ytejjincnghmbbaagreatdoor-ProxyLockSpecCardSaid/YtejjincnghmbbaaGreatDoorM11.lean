/- Bytes that grow; numerals. -/
import Derived.Maps.AppendAt
import Derived.Lib.AppendStr
import Derived.Test.YtejjincnghmbbaaGreatDoorM7
namespace Go.Proofs.YtejjincnghmbbaaGreatDoor
open Go.RowKit
attribute [-go_sem] Builtin.append_

/-- A slice of bytes that lies in a row of its own (from block B on). -/
def Own (B : Nat) (w : World) (v : Value) (l : List UInt8) : Prop := w.ownsRow B 5 1 v l.length (l.map u8v)

theorem Own.nil (B : Nat) (w : World) : Own B w (.slice none 0 0) [] := ⟨rfl, .inl ⟨rfl, rfl⟩⟩
theorem Own.bs {B : Nat} {w : World} {v : Value} {l : List UInt8} (h : Own B w v l) : Bs w.heap.size w v l := by
  obtain ⟨_, ⟨rfl, hn⟩ | ⟨g, cap, cur, rfl, hg, hc, hcap, _, hs, ht⟩⟩ := h
  · have : l = [] := List.eq_nil_of_length_eq_zero hn
    subst this
    exact Bs.nil _ _
  · have hr : RowIs w g 5 cur.toList := hc
    refine Bs.row hr hr.lt l rfl hcap (fun i hi => ?_)
    have h2 := congrArg (·[i]?) ht
    simp only [Nat.mul_one] at h2
    rw [List.getElem?_take_of_lt hi] at h2
    rw [Nat.zero_add, h2, List.getElem?_map, List.getElem?_eq_getElem hi]
    rfl
theorem Own.below {B C : Nat} {w w' : World} {v : Value} {l : List UInt8} (h : Own B w v l) (hb : Below C w w') (hC : w.heap.size ≤ C) : Own B w' v l := by
  obtain ⟨h1, h2 | ⟨g, cap, cur, rfl, hg, hc, hcap, hm, hs, ht⟩⟩ := h
  · exact ⟨h1, .inl h2⟩
  · have hr : RowIs w g 5 cur.toList := hc
    exact ⟨h1, .inr ⟨g, cap, cur, rfl, hg, (hb.block g (Nat.lt_of_lt_of_le hr.lt hC)).trans hc, hcap, hm, hs, ht⟩⟩
theorem Own.mono {B C : Nat} {w : World} {v : Value} {l : List UInt8} (h : Own B w v l) (hb : C ≤ B) : Own C w v l := by
  obtain ⟨h1, h2 | ⟨g, cap, cur, rfl, hg, r⟩⟩ := h
  · exact ⟨h1, .inl h2⟩
  · exact ⟨h1, .inr ⟨g, cap, cur, rfl, Nat.le_trans hb hg, r⟩⟩

theorem own_block {B : Nat} {w : World} {v : Value} {l : List UInt8} (h : Own B w v l) : ∀ g, v.ownBlock = some g → B ≤ g := by
  obtain ⟨_, ⟨rfl, _⟩ | ⟨g, cap, cur, rfl, hg, _⟩⟩ := h
  · intro g hg; cases hg
  · intro k hk
    cases hk
    exact hg

/-- What growing leaves as it was. -/
structure Gr (w : World) (v : Value) (w' : World) (v' : Value) : Prop where
  os : w'.os = w.os
  tape : w'.tape = w.tape
  output : w'.output = w.output
  size : w.heap.size ≤ w'.heap.size
  block : ∀ k, k < w.heap.size → v.ownBlock ≠ some k → w'.heap[k]? = w.heap[k]?
  own : ∀ g, v'.ownBlock = some g → v.ownBlock = some g ∨ w.heap.size ≤ g

theorem Gr.refl (w : World) (v : Value) : Gr w v w v := ⟨rfl, rfl, rfl, Nat.le_refl _, fun _ _ _ => rfl, fun _ h => .inl h⟩
theorem Gr.trans {w w1 w2 : World} {v v1 v2 : Value} (h : Gr w v w1 v1) (k : Gr w1 v1 w2 v2) : Gr w v w2 v2 := by
  refine ⟨k.os.trans h.os, k.tape.trans h.tape, k.output.trans h.output, Nat.le_trans h.size k.size, fun b hb hn => ?_, fun g hg => ?_⟩
  · refine (k.block b (Nat.lt_of_lt_of_le hb h.size) (fun he => ?_)).trans (h.block b hb hn)
    rcases h.own b he with h1 | h1
    · exact hn h1
    · omega
  · rcases k.own g hg with h1 | h1
    · exact h.own g h1
    · exact .inr (Nat.le_trans h.size h1)
theorem Gr.below {B : Nat} {w w' : World} {v v' : Value} {l : List UInt8} (h : Gr w v w' v') (ho : Own B w v l) (hB : B ≤ w.heap.size) : Below B w w' :=
  ⟨h.os, h.tape, h.output, h.size, fun k hk => h.block k (by omega) (fun he => by have := own_block ho k he; omega)⟩
theorem Gr.alloc (w : World) (v : Value) (o : Obj) : Gr w v (w.alloc o) v :=
  have hb : Below w.heap.size w (w.alloc o) := (Below.refl _ w).alloc (Nat.le_refl _) _
  ⟨hb.os, hb.tape, hb.output, hb.size, fun k hk _ => hb.block k hk, fun _ h => .inl h⟩
theorem Gr.of_below {w w' : World} (v : Value) (hb : Below w.heap.size w w') : Gr w v w' v :=
  ⟨hb.os, hb.tape, hb.output, hb.size, fun k hk _ => hb.block k hk, fun _ h => .inl h⟩
theorem Gr.cell {w w' : World} {v v' : Value} (h : Gr w v w' v') {k : Nat} (hk : k < w.heap.size) (hn : v.ownBlock ≠ some k) (o : Nat) : w'.cell? ⟨k, o, none⟩ = w.cell? ⟨k, o, none⟩ :=
  World.cell?_of_block (h.block k hk hn)
theorem own_lt {B : Nat} {w : World} {v : Value} {l : List UInt8} (h : Own B w v l) : ∀ g, v.ownBlock = some g → g < w.heap.size := by
  obtain ⟨_, ⟨rfl, _⟩ | ⟨g, cap, cur, rfl, hg, hc, _⟩⟩ := h
  · intro g hg; cases hg
  · intro k hk
    cases hk
    have hr : RowIs w g 5 cur.toList := hc
    exact hr.lt

/-- append of some bytes to bytes that lie in a row of their own. -/
theorem append_own {B : Nat} {w : World} {v : Value} {l m : List UInt8} (h : Own B w v l) (hB : B ≤ w.heap.size) (g off cap : Nat) (hx : BytesAt w g off m) (hlim : l.length + m.length ≤ 140737488355328) :
    ∃ v' w', (Builtin.append_ #[56, 56] 56 #[v, .slice (some ⟨g, off, none⟩) m.length cap]).run Tryz.prog w = .ok v' w' ∧ Own B w' v' (l ++ m) ∧ Gr w v w' v' := by
  obtain ⟨i, hi, hz, hs, hb⟩ := byte_info
  obtain ⟨v', w', h1, h2, h3, _, h5⟩ := run_append_own_at (P := Tryz.prog) w B 56 56 5 i (u8v 0) 1 1 (by kernel_rfl) hi hz hs hb rfl (by omega) v l.length (l.map u8v) h ⟨g, off, none⟩ m.length cap (m.map u8v) (by simp)
    (fun j u hj => by
      have hadd : (⟨g, off, none⟩ : Addr).add j = ⟨g, off + j, none⟩ := by unfold Addr.add; split <;> simp_all
      rw [hadd]
      have hj1 : j < m.length := by
        apply Classical.byContradiction
        intro hc
        rw [List.getElem?_eq_none (by simpa using hc)] at hj
        simp at hj
      rw [hx j hj1, ← hj]
      simp [hj1]) (fun u hu => by rw [List.mem_map] at hu; obtain ⟨c, _, rfl⟩ := hu; rfl) (by unfold maxLen; omega) (by omega) hB
  refine ⟨v', w', h1, ?_, ?_⟩
  · unfold Own
    rw [List.length_append, List.map_append]
    exact h2
  · refine ⟨h3.os, h3.tape, h3.output, h3.size, fun k hk hn => h3.block k hk (fun he => hn he.symm), fun g hg => ?_⟩
    rcases h5 with h5 | h5
    · exact .inl (h5 ▸ hg)
    · rw [h5] at hg
      cases hg
      exact .inr (Nat.le_refl _)

theorem append_byte {B : Nat} {w : World} {v : Value} {l : List UInt8} (h : Own B w v l) (hB : B ≤ w.heap.size) (c : UInt8) (hlim : l.length + 1 ≤ 140737488355328) :
    ∃ v' w', (Builtin.append_ #[56, 56] 56 #[v, .slice (some ⟨w.heap.size, 0, none⟩) 1 1]).run Tryz.prog (w.alloc (.cells #[.int .u8 (bn c)] 5)) = .ok v' w' ∧ Own B w' v' (l ++ [c]) ∧ Gr w v w' v' := by
  have hr : RowIs (w.alloc (.cells #[.int .u8 (bn c)] 5)) w.heap.size 5 [u8v c] := RowIs.new w [u8v c] _
  have hb : Below w.heap.size w (w.alloc (.cells #[.int .u8 (bn c)] 5)) := (Below.refl _ w).alloc (Nat.le_refl _) _
  obtain ⟨v', w', h1, h2, h3⟩ := append_own (m := [c]) (h.below hb (Nat.le_refl _)) (Nat.le_trans hB hb.size) w.heap.size 0 1 (fun i hi => by
    simp at hi
    subst hi
    exact hr.cell 0) hlim
  exact ⟨v', w', h1, h2, (Gr.of_below v hb).trans h3⟩

theorem append_byte_drew {B : Nat} {w : World} {v : Value} {l : List UInt8} (h : Own B w v l) (hB : B ≤ w.heap.size) (c : UInt8) (hlim : l.length + 1 ≤ 140737488355328) :
    ∃ v' w', (Builtin.append_ #[56, 56] 56 #[v, .slice (some ⟨w.heap.size, 0, none⟩) 1 1]).run Tryz.prog (w.alloc (.cells #[.int .u8 (bn c)] 5)).drew = .ok v' w' ∧ Own B w' v' (l ++ [c]) ∧ Gr w v w' v' := by
  have hr : RowIs (w.alloc (.cells #[.int .u8 (bn c)] 5)).drew w.heap.size 5 [u8v c] := RowIs.new w [u8v c] _
  have hb : Below w.heap.size w (w.alloc (.cells #[.int .u8 (bn c)] 5)).drew := ((Below.refl _ w).alloc (Nat.le_refl _) _).trans ((drew_below _).mono (by simp))
  obtain ⟨v', w', h1, h2, h3⟩ := append_own (m := [c]) (h.below hb (Nat.le_refl _)) (Nat.le_trans hB hb.size) w.heap.size 0 1 (fun i hi => by
    simp at hi
    subst hi
    exact hr.cell 0) hlim
  exact ⟨v', w', h1, h2, (Gr.of_below v hb).trans h3⟩

theorem strCells_eq (s : ByteArray) : Lib.strCells s = s.data.toList.map u8v := by
  simp [Lib.strCells]
  intro a _
  rfl

theorem append_str {B : Nat} {w : World} {v : Value} {l : List UInt8} (h : Own B w v l) (hB : B ≤ w.heap.size) (s : ByteArray) (hlim : l.length + s.data.toList.length ≤ 140737488355328) :
    ∃ v' w', (Builtin.append_ #[56, 9] 56 #[v, .string s]).run Tryz.prog w = .ok v' w' ∧ Own B w' v' (l ++ s.data.toList) ∧ Gr w v w' v' := by
  obtain ⟨i, hi, hz, hs, hb⟩ := byte_info
  have hsz : s.size = s.data.toList.length := by rw [Array.length_toList]; rfl
  have ht : Tryz.prog.underlying 56 = some (.slice 5) := by kernel_rfl
  have hu : Tryz.prog.underlying 9 = some .string := by kernel_rfl
  obtain ⟨v', w', h1, h2, h3, h4⟩ := Lib.run_append_own_string (P := Tryz.prog) w B 56 9 56 5 i ht hu hi hz hs hb v l.length (l.map u8v) h s (by unfold maxLen; omega) (by omega) hB
  have h5 : v'.ownBlock = v.ownBlock ∨ v'.ownBlock = some w.heap.size := by
    rcases h.2 with ⟨rfl, hn⟩ | ⟨g, cap, cur, rfl, hbg, hg, hnc, hcm, hcs, htake⟩
    · by_cases hm : s.size = 0
      · rw [h4.2 ⟨rfl, hm⟩]; exact .inl rfl
      · have hr := run_append_nil_string (P := Tryz.prog) w 56 9 56 5 i (.int .u8 0) ht hu hi hz s (by omega) (by omega) (by rw [hb]; omega)
        rw [h1] at hr
        injection hr with e1 e2
        rw [e1]; exact .inr rfl
    · have hcs' : cur.size = cap := by simpa using hcs
      by_cases hroom : l.length + s.size ≤ cap
      · have hr := Lib.run_append_room_string (P := Tryz.prog) w 56 9 56 5 i ht hu hi hs g l.length cap cur hg s hroom (by omega)
        rw [h1] at hr
        injection hr with e1 e2
        rw [e1]; exact .inl rfl
      · have hr := Lib.run_append_grow_string (P := Tryz.prog) w 56 9 56 5 i (.int .u8 0) ht hu hi hz ⟨g, 0, none⟩ l.length cap (l.map u8v) (by rw [hs]; simp) (World.ownsRow.cells h (g := g) rfl) s (by omega) (by omega) (by rw [hb]; exact growslice_fits (by omega) (by omega))
        rw [h1] at hr
        injection hr with e1 e2
        rw [e1]; exact .inr rfl
  refine ⟨v', w', h1, ?_, ?_⟩
  · unfold Own
    rw [List.length_append, List.map_append, ← strCells_eq, ← hsz]
    exact h2
  · refine ⟨h3.os, h3.tape, h3.output, h3.size, fun k hk hn => h3.block k hk (fun he => hn he.symm), fun g hg => ?_⟩
    rcases h5 with h5 | h5
    · exact .inl (h5 ▸ hg)
    · rw [h5] at hg
      cases hg
      exact .inr (Nat.le_refl _)

/-- The digits of a number. -/
def numB (u : Nat) : List UInt8 := if u < 128 then [UInt8.ofNat u] else UInt8.ofNat (u % 128 + 128) :: numB (u / 128)
termination_by u
decreasing_by omega

theorem numB_small (u : Nat) (h : u < 128) : numB u = [UInt8.ofNat u] := by rw [numB, if_pos h]
theorem numB_big (u : Nat) (h : ¬ u < 128) : numB u = UInt8.ofNat (u % 128 + 128) :: numB (u / 128) := by rw [numB, if_neg h]
theorem numB_length (k : Nat) : ∀ u, u < 2 ^ (7 * k) → (numB u).length ≤ k + 1 := by
  induction k with
  | zero => intro u h; rw [numB_small u (by simp at h; omega)]; simp
  | succ k ih =>
    intro u h
    by_cases hu : u < 128
    · rw [numB_small u hu]; simp
    · rw [numB_big u hu, List.length_cons]
      have e : 2 ^ (7 * (k + 1)) = 2 ^ (7 * k) * 128 := by rw [Nat.mul_add, Nat.pow_add]
      have := ih (u / 128) (Nat.div_lt_of_lt_mul (by rw [e] at h; omega))
      omega
end Go.Proofs.YtejjincnghmbbaaGreatDoor
