/- codec.newWriter. -/
import Derived.Laws.EntriesVeiled
import Derived.Test.YtgklcfipgdbbgaaDoorM16
namespace Go.Proofs.YtgklcfipgdbbgaaDoor
open Go.RowKit

/-- The writer of values in memory: block b; block c holds its address. -/
structure Writer (w : World) (b c : Nat) : Prop where
  row : RowIs w b 123 [.nilFunc, .func (.func 81) #[] #[], .func (.func 84) #[] #[], .func (.func 85) #[] #[.pointer (some ⟨c, 0, none⟩)]]
  self : RowIs w c 106 [.pointer (some ⟨b, 0, none⟩)]

theorem newWriter_any (w : World) : Calls Tryd.prog 65 #[] w fun e w' => e = .returned (.pointer (some ⟨w.heap.size, 0, none⟩)) ∧ Writer w' w.heap.size (w.heap.size + 1) ∧ Below w.heap.size w w' := by
  go_enter Tryd.func65, Tryd.ntmps65
  go_wp2_with fail
  go_ret
  refine ⟨rfl, ⟨RowIs.alloc (RowIs.new w [.nilFunc, .func (.func 81) #[] #[], .func (.func 84) #[] #[], .func (.func 85) #[] #[.pointer (some ⟨w.heap.size + 1, 0, none⟩)]] _) _, RowIs.new2 w _ [.pointer (some ⟨w.heap.size, 0, none⟩)] _⟩, ?_⟩
  exact ((Below.refl _ w).alloc (Nat.le_refl _) _).alloc (by simp) _
end Go.Proofs.YtgklcfipgdbbgaaDoor
