/- Ledger: rows of lines. -/
import Derived.Test.YtiggpgeldigknaaLE
set_option linter.unusedVariables false
set_option linter.unusedSimpArgs false
namespace Go.Proofs.Ytiggpgeldigknaa
open Go.RowKit
theorem setRow_new (w : World) (M C : Array Value) (t : TypeId) : (w.alloc (.cells M t)).setRow w.heap.size C = w.alloc (.cells C t) := by
  have e : (w.heap.push (.cells M t)).modify w.heap.size (fun o => match o with | .cells _ elem frozen => .cells C elem frozen | o => o) = w.heap.push (.cells C t) := by
    apply Array.ext_getElem?
    intro i
    rw [Array.getElem?_modify, Array.getElem?_push, Array.getElem?_push]
    by_cases h : i = w.heap.size
    · subst h; simp
    · rw [if_neg (fun g => h g.symm), if_neg h, if_neg h]
  exact congrArg (fun h => ({ w with heap := h } : World)) e
/-- a log and an error that are handed back -/
def ResL (r : List Ln × Int) (e : Ending) (w' : World) : Prop := ∃ A' n' c', e = .returned (.tuple #[.slice A' n' c', .int .i64 r.2]) ∧ LAt lnC 6 w' w'.heap.size A' n' r.1 ∧ n' ≤ c'
theorem below_set0 {w w' : World} (h : Below w.heap.size w w') : Below w.heap.size w w' := h
theorem ln_info : (Try.prog.info? 67).map (fun i => (i.zero, i.size, i.bytes)) = some (some (Value.agg #[.int .i64 0, .int .i64 0, .string ⟨#[]⟩, .string ⟨#[]⟩, .string ⟨#[]⟩, .int .u64 0]), 6, 72) := by kernel_rfl
theorem ln_one (l : List Ln) : ∀ u ∈ flat lnC l, u.oneCell' = true := by
  intro u hu
  simp only [flat, List.mem_flatMap, lnC] at hu
  obtain ⟨s, _, h⟩ := hu
  simp at h
  rcases h with rfl | rfl | rfl | rfl | rfl | rfl <;> rfl
end Go.Proofs.Ytiggpgeldigknaa
