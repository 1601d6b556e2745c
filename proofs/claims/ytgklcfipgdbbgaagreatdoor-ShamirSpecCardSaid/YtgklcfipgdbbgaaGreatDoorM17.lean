/- codec.newWriter. -/
import Derived.Laws.EntriesVeiled
import Derived.Test.YtgklcfipgdbbgaaGreatDoorM16
namespace Go.Proofs.YtgklcfipgdbbgaaGreatDoor
open Go.RowKit

/-- The writer of values in memory: block b; block c holds its address. -/
structure Writer (w : World) (b c : Nat) : Prop where
  row : RowIs w b 110 [.nilFunc, .func (.func 74) #[] #[], .func (.func 77) #[] #[], .func (.func 78) #[] #[.pointer (some ⟨c, 0, none⟩)]]
  self : RowIs w c 91 [.pointer (some ⟨b, 0, none⟩)]

theorem newWriter_any (w : World) : Calls Tryz.prog 54 #[] w fun e w' => e = .returned (.pointer (some ⟨w.heap.size, 0, none⟩)) ∧ Writer w' w.heap.size (w.heap.size + 1) ∧ Below w.heap.size w w' := by
  go_enter Tryz.func54, Tryz.ntmps54
  go_wp2_with fail
  go_ret
  refine ⟨rfl, ⟨RowIs.alloc (RowIs.new w [.nilFunc, .func (.func 74) #[] #[], .func (.func 77) #[] #[], .func (.func 78) #[] #[.pointer (some ⟨w.heap.size + 1, 0, none⟩)]] _) _, RowIs.new2 w _ [.pointer (some ⟨w.heap.size, 0, none⟩)] _⟩, ?_⟩
  exact ((Below.refl _ w).alloc (Nat.le_refl _) _).alloc (by simp) _
end Go.Proofs.YtgklcfipgdbbgaaGreatDoor
