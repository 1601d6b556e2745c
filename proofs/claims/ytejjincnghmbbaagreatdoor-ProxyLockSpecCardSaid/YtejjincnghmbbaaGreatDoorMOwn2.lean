/- Bytes in a row of their own: more. -/
import Derived.Test.YtejjincnghmbbaaGreatDoorM12
namespace Go.Proofs.YtejjincnghmbbaaGreatDoor
open Go.RowKit

theorem Own.empty {B : Nat} (w : World) (hB : B ≤ w.heap.size) : Own B (w.alloc (.cells #[] 5)) (.slice (some ⟨w.heap.size, 0, none⟩) 0 0) [] :=
  ⟨rfl, .inr ⟨w.heap.size, 0, #[], rfl, hB, heap_new w _, Nat.le_refl _, by unfold maxLen; omega, rfl, rfl⟩⟩
theorem Own.shape {B : Nat} {w : World} {v : Value} {l : List UInt8} (h : Own B w v l) (hl : l ≠ []) : ∃ g cap, v = .slice (some ⟨g, 0, none⟩) l.length cap ∧ l.length ≤ cap ∧ B ≤ g ∧ BytesAt w g 0 l := by
  have hb := h.bs
  obtain ⟨_, ⟨_, hn⟩ | ⟨g, cap, cur, rfl, hg, hc, hcap, _⟩⟩ := h
  · exact absurd (List.eq_nil_of_length_eq_zero hn) hl
  · obtain ⟨a, c, hv, _, hx⟩ := hb.ex
    obtain ⟨g', off, ha, hg', hby⟩ := hx hl
    rw [ha] at hv
    injection hv with e1 e2 e3
    injection e1 with e1
    injection e1 with e4 e5
    subst e4
    subst e5
    exact ⟨g, cap, rfl, hcap, hg, hby⟩

/-- Bytes in a row of their own, and all old memory as it was. -/
def Made (B : Nat) (l : List UInt8) (w : World) (e : Ending) (w' : World) : Prop := ∃ v, e = .returned v ∧ Own B w' v l ∧ Below B w w'
end Go.Proofs.YtejjincnghmbbaaGreatDoor
