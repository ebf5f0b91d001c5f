/- Ledger: LedgerDetects, walked. -/
import Derived.Test.YtiggpgeldigknaaLN0
import Derived.Test.YtiggpgeldigknaaLN1
import Derived.Test.YtiggpgeldigknaaLN2
import Derived.Test.YtiggpgeldigknaaLN3
import Derived.Test.YtiggpgeldigknaaLN4
import Derived.Test.YtiggpgeldigknaaLN5
set_option linter.unusedVariables false
set_option linter.unusedSimpArgs false
namespace Go.Proofs.Ytiggpgeldigknaa
open Go.RowKit
theorem lawDetectsL (A : Option Addr) (n cp : Nat) (N : List Nt) (av : Int) (c : Ln) (fld : Int) (w : World) (h : LAt ntC 4 w w.heap.size A n N) (hr : ∀ x ∈ N, NtR x) (hat : (Lit.int .u8 av).wf = true) (hcr : LnR c) (hfl : (Lit.int .u8 fld).wf = true) :
    Calls Try.prog 13 #[.slice A n cp, .int .u8 av, .agg (lnC c).toArray, .int .u8 fld] w fun e w' => e = .returned (.bool true) ∧ Below w.heap.size w w' := by
  have h1 : 0 ≤ av ∧ av ≤ 255 := by simpa [Lit.wf, IntKind.min, IntKind.max, IntKind.signed, IntKind.bits] using hat
  have h2 : 0 ≤ fld ∧ fld ≤ 255 := by simpa [Lit.wf, IntKind.min, IntKind.max, IntKind.signed, IntKind.bits] using hfl
  have h3 : fld.tmod 6 = fld % 6 := Int.tmod_eq_emod_of_nonneg h2.1
  have h4 : fld % 6 = 0 ∨ fld % 6 = 1 ∨ fld % 6 = 2 ∨ fld % 6 = 3 ∨ fld % 6 = 4 ∨ fld % 6 = 5 := by omega
  rcases h4 with e | e | e | e | e | e
  · exact lawDet0 A n cp N av c fld w h hr h1 hcr h2 (h3.trans e)
  · exact lawDet1 A n cp N av c fld w h hr h1 hcr h2 (h3.trans e)
  · exact lawDet2 A n cp N av c fld w h hr h1 hcr h2 (h3.trans e)
  · exact lawDet3 A n cp N av c fld w h hr h1 hcr h2 (h3.trans e)
  · exact lawDet4 A n cp N av c fld w h hr h1 hcr h2 (h3.trans e)
  · exact lawDet5 A n cp N av c fld w h hr h1 hcr h2 (h3.trans e)
end Go.Proofs.Ytiggpgeldigknaa
