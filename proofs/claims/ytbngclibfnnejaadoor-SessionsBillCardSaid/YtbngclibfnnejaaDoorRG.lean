/- Small words for regions and rows: what a step keeps; no stores; a block that reads as a list. (Not beside CN, CR of certs: the same names.) -/
import Derived.Test.YtbngclibfnnejaaDoorFlat
set_option linter.unusedVariables false
namespace Go.Proofs.YtbngclibfnnejaaDoor
open Go.RowKit
def Rb (a b : World) : Prop := Below a.heap.size a b
def noS (_ : Value) (_ _ : World) : Prop := False
def noG (_ : Tmp) (_ : Value) (_ : World) : Prop := True
theorem lat_blk {α : Type} {f : α → List Value} {s : Nat} (hf : ∀ a, (f a).length = s) {w : World} {g : Nat} {ty : TypeId} {cs : Array Value} (h : Blk w g ty cs) (l : List α) (n : Nat) (hn : l.length = n) (hc : cs.toList = flat f l) : LAt f s w w.heap.size (some ⟨g, 0, none⟩) n l := by
  subst hn
  refine ⟨⟨rfl, hf⟩, flat_len hf l, fun _ => ⟨_, rfl, h.lt, fun j u hu => ?_⟩⟩
  rw [add_row, cell_of_row _ _ j cs ty _ h, ← Array.getElem?_toList, hc]
  exact hu
end Go.Proofs.YtbngclibfnnejaaDoor
