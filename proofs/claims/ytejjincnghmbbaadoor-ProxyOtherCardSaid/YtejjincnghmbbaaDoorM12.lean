/- codec.newWriter. -/
import Derived.Laws.EntriesVeiled
import Derived.Test.YtejjincnghmbbaaDoorM11
namespace Go.Proofs.YtejjincnghmbbaaDoor
open Go.RowKit

/-- The writer of values in memory: block b; block c holds its address. -/
structure Writer (w : World) (b c : Nat) : Prop where
  row : RowIs w b 130 [.nilFunc, .func (.func 99) #[] #[], .func (.func 102) #[] #[], .func (.func 103) #[] #[.pointer (some ⟨c, 0, none⟩)]]
  self : RowIs w c 111 [.pointer (some ⟨b, 0, none⟩)]

theorem newWriter_any (w : World) : Calls Tryd.prog 87 #[] w fun e w' => e = .returned (.pointer (some ⟨w.heap.size, 0, none⟩)) ∧ Writer w' w.heap.size (w.heap.size + 1) ∧ Below w.heap.size w w' := by
  go_enter Tryd.func87, Tryd.ntmps87
  go_wp2_with fail
  go_ret
  refine ⟨rfl, ⟨RowIs.alloc (RowIs.new w [.nilFunc, .func (.func 99) #[] #[], .func (.func 102) #[] #[], .func (.func 103) #[] #[.pointer (some ⟨w.heap.size + 1, 0, none⟩)]] _) _, RowIs.new2 w _ [.pointer (some ⟨w.heap.size, 0, none⟩)] _⟩, ?_⟩
  exact ((Below.refl _ w).alloc (Nat.le_refl _) _).alloc (by simp) _
end Go.Proofs.YtejjincnghmbbaaDoor
