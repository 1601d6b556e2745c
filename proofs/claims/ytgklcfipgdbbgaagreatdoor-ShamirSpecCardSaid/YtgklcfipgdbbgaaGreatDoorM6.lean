/- Ranges over functions: what a round keeps. -/
import Derived.RangeFuncNested
import Derived.RangeFuncFrom
import Derived.RangeFuncBound
import Derived.RangeFuncCalls
import Derived.RangeFuncLeaves
import Derived.Shelf.Abstract
import Derived.Shelf.RegionOpen
import Derived.OwnWalkIn
import Derived.TacticsInMore
import Derived.LoopNIn
import Derived.LoopIn
import Derived.Test.YtgklcfipgdbbgaaGreatDoorM5
namespace Go.Proofs.YtgklcfipgdbbgaaGreatDoor
open Go.RowKit Go.Shelf

/-- One cell reads as before. -/
def KeepsCell (B : Nat) (W W' : World) : Prop := W'.cell? ⟨B, 0, none⟩ = W.cell? ⟨B, 0, none⟩

theorem keepsCell_t {B : Nat} {X Y Z : World} (h : KeepsCell B X Y) (k : KeepsCell B Y Z) : KeepsCell B X Z := k.trans h
theorem keepsCell_b {B : Nat} {w : World} (hn : B < w.heap.size) (W : World) (l : Nat) (o o' : Obj) (hl : w.heap.size ≤ l) (_ : W.heap[l]? = some o) (_ : o.isCells = false) (_ : o.isWalk = false) : KeepsCell B W (W.putObj l o') :=
  World.cell?_of_block (w := W) (World.putObj_heap_other (by show B ≠ l; omega))
theorem keepsCell_below {B : Nat} {W W' : World} (hb : Below W.heap.size W W') (h : B < W.heap.size) : KeepsCell B W W' := hb.cell (p := ⟨B, 0, none⟩) h
theorem keepsCell_set {B C : Nat} {W : World} (h : B ≠ C) (v : Value) : KeepsCell B W (W.setCell ⟨C, 0, none⟩ v) := World.cell?_setCell_other W _ _ _ (fun e => h (by cases e; rfl))
theorem keepsOthers_below {W W' : World} (hb : Below W.heap.size W W') : KeepsOthers W W' :=
  ⟨hb.size, fun k _ hk _ => (hb.block k (Array.getElem?_eq_some_iff.1 hk).1).trans hk⟩
end Go.Proofs.YtgklcfipgdbbgaaGreatDoor
