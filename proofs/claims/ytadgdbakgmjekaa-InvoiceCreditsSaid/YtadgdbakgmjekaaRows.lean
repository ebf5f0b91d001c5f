/-
  No cell of these rows narrows 'for every input' (looked for: loops, veiled, ifaces, maps, wideKeys, modest, calm, conditions, laid).
  DERIVED. THE GIVEN ROWS OF THIS SEAT. 4 by the template 'for every input the law returns true; each argument reads behind the call as it read before'; 0 by the template 'total and deterministic' (their statements: YtadgdbakgmjekaaTotals.lean).
  GIVEN WITH THE SEED: the statements are not yours to turn. If you find one false, say at which input.
  Laid BY PROGRAM, IN A SANDBOX (cutbox-rows.mjs): the forced cells as the released guide's own fill.sh prints them over the translation de492ae69927a642… (all of the seat's roots in one cut). By AI agents, Wed Nov 11 2026. No macro, syntax, notation, axiom, sorry.
-/
import Derived.Test.YtadgdbakgmjekaaChecked
import GoSem.Claim
import GoSem.ClaimJoined
import GoSem.ClaimMapViews
import Derived.JoinedTies
import Derived.KernelRfl
namespace Go.Proofs.Ytadgdbakgmjekaa
/- THE CELL 'sum', in the pinned program and in every row, IS THE sha256 OF THE DUMP (.gsa) THAT YtadgdbakgmjekaaProg.lean LOADS. Nothing in Lean hashes anything: it is a label: what it is worth is what the hold of that sum in a sandbox is worth. -/
noncomputable def Try.pinned : Pinned := { name := "ytadgdbakgmjekaa", sum := "de492ae69927a64268041e47d91173e134a911363759689467d62d649de12091", checked := Try.checked }
namespace Rows
def none {H : Type} : Left H := { results := [], args := [] }

/-- 'chargenetlaw44.InvoiceRuns': WHATEVER THE INPUT: true; the input reads as it did. -/
def invoiceRunsSpec : ChangeSpec := { name := "invoiceRuns", fn := fun _ => fun
  | [d] => { results := [.lit (.bool true)], args := [d] }
  | _ => none }
def invoiceRunsRow : OpenClaim := { program := "ytadgdbakgmjekaa", sum := "de492ae69927a64268041e47d91173e134a911363759689467d62d649de12091", func := "chargenet/chargenetlaw44.InvoiceRuns", spec := "invoiceRuns", inPlace := ["math/bits.Add64"], unfollowed := true, recurses := true, apart := false }
def InvoiceRunsSaid : Prop := invoiceRunsRow.holds Try.pinned (OpenSpec.ofChange invoiceRunsSpec)

/-- ITS FALSE NEIGHBOUR: 'it returns false'. Refute it at one input. -/
def invoiceRunsWrong : ChangeSpec := { name := "invoiceRuns", fn := fun _ => fun
  | [d] => { results := [.lit (.bool false)], args := [d] }
  | _ => none }
def InvoiceRunsWrongFalsely : Prop := invoiceRunsRow.holds Try.pinned (OpenSpec.ofChange invoiceRunsWrong)

/-- 'chargenetlaw44.InvoiceCredits': WHATEVER THE INPUT: true; the input reads as it did. -/
def invoiceCreditsSpec : ChangeSpec := { name := "invoiceCredits", fn := fun _ => fun
  | [d] => { results := [.lit (.bool true)], args := [d] }
  | _ => none }
def invoiceCreditsRow : OpenClaim := { program := "ytadgdbakgmjekaa", sum := "de492ae69927a64268041e47d91173e134a911363759689467d62d649de12091", func := "chargenet/chargenetlaw44.InvoiceCredits", spec := "invoiceCredits", inPlace := ["math/bits.Add64"], unfollowed := true, recurses := true, apart := false }
def InvoiceCreditsSaid : Prop := invoiceCreditsRow.holds Try.pinned (OpenSpec.ofChange invoiceCreditsSpec)

/-- ITS FALSE NEIGHBOUR: 'it returns false'. Refute it at one input. -/
def invoiceCreditsWrong : ChangeSpec := { name := "invoiceCredits", fn := fun _ => fun
  | [d] => { results := [.lit (.bool false)], args := [d] }
  | _ => none }
def InvoiceCreditsWrongFalsely : Prop := invoiceCreditsRow.holds Try.pinned (OpenSpec.ofChange invoiceCreditsWrong)

/-- 'chargenetlaw44.InvoiceSums': WHATEVER THE INPUT: true; the input reads as it did. -/
def invoiceSumsSpec : ChangeSpec := { name := "invoiceSums", fn := fun _ => fun
  | [d] => { results := [.lit (.bool true)], args := [d] }
  | _ => none }
def invoiceSumsRow : OpenClaim := { program := "ytadgdbakgmjekaa", sum := "de492ae69927a64268041e47d91173e134a911363759689467d62d649de12091", func := "chargenet/chargenetlaw44.InvoiceSums", spec := "invoiceSums", inPlace := ["math/bits.Add64"], unfollowed := true, recurses := true, apart := false }
def InvoiceSumsSaid : Prop := invoiceSumsRow.holds Try.pinned (OpenSpec.ofChange invoiceSumsSpec)

/-- ITS FALSE NEIGHBOUR: 'it returns false'. Refute it at one input. -/
def invoiceSumsWrong : ChangeSpec := { name := "invoiceSums", fn := fun _ => fun
  | [d] => { results := [.lit (.bool false)], args := [d] }
  | _ => none }
def InvoiceSumsWrongFalsely : Prop := invoiceSumsRow.holds Try.pinned (OpenSpec.ofChange invoiceSumsWrong)

/-- 'chargenetlaw44.InvoiceOthers': WHATEVER THE INPUT: true; the input reads as it did. -/
def invoiceOthersSpec : ChangeSpec := { name := "invoiceOthers", fn := fun _ => fun
  | [d1, d2, d3] => { results := [.lit (.bool true)], args := [d1, d2, d3] }
  | _ => none }
def invoiceOthersRow : OpenClaim := { program := "ytadgdbakgmjekaa", sum := "de492ae69927a64268041e47d91173e134a911363759689467d62d649de12091", func := "chargenet/chargenetlaw44.InvoiceOthers", spec := "invoiceOthers", inPlace := ["math/bits.Add64"], unfollowed := true, recurses := true, apart := false }
def InvoiceOthersSaid : Prop := invoiceOthersRow.holds Try.pinned (OpenSpec.ofChange invoiceOthersSpec)

/-- ITS FALSE NEIGHBOUR: 'it returns false'. Refute it at one input. -/
def invoiceOthersWrong : ChangeSpec := { name := "invoiceOthers", fn := fun _ => fun
  | [d1, d2, d3] => { results := [.lit (.bool false)], args := [d1, d2, d3] }
  | _ => none }
def InvoiceOthersWrongFalsely : Prop := invoiceOthersRow.holds Try.pinned (OpenSpec.ofChange invoiceOthersWrong)

/- THE SECOND FORM. 'bulk': how many values and letters a reading holds, each counted each time it is reached (what is shared counts as often as it is met; a slice's spare places count too). A statement '..UptoSaid' is the law's where the arguments, and the package variables that the reading takes, are together of bulk at most 1048576: NARROWER than '..Said'. Prove '..Said' where nothing that the law and all that it calls make is longer than what came in: it says more and counts as full. Else prove '..UptoSaid'. A law counts once. -/
mutual
def uptoBulk {H : Type} : DataW H → Nat
  | .lit (.string bytes) => bytes.length + 1
  | .lit _ => 1
  | .nil => 1
  | .ptr d => uptoBulk d + 1
  | .slice elems spare => uptoBulkAll elems + uptoBulkAll spare + 1
  | .agg parts => uptoBulkAll parts + 1
  | .iface _ d => uptoBulk d + 1
  | .map entries => uptoBulkEntries entries + 1
  | .held _ => 1
def uptoBulkAll {H : Type} : List (DataW H) → Nat
  | [] => 0
  | d :: r => uptoBulk d + uptoBulkAll r
def uptoBulkEntries {H : Type} : List (Lit × DataW H) → Nat
  | [] => 0
  | x :: r => uptoBulkEntry x + uptoBulkEntries r
def uptoBulkEntry {H : Type} : Lit × DataW H → Nat
  | (.string bytes, d) => bytes.length + uptoBulk d + 1
  | (_, d) => uptoBulk d + 1
 end
def uptoSmall : (H : Type) → List (DataW H) → Bool := fun _ ds => decide (uptoBulkAll ds ≤ 1048576)
def OpenSpec.upto (s : _root_.Go.ChangeSpec) : _root_.Go.OpenSpec := { _root_.Go.OpenSpec.ofChange s with cond := some uptoSmall }

/-- 'chargenetlaw44.InvoiceRuns', WHERE WHAT IT READS IS OF BULK AT MOST 1048576: true; the input reads as it did. -/
def invoiceRunsUptoRow : OpenClaim := { program := "ytadgdbakgmjekaa", sum := "de492ae69927a64268041e47d91173e134a911363759689467d62d649de12091", func := "chargenet/chargenetlaw44.InvoiceRuns", spec := "invoiceRuns", inPlace := ["math/bits.Add64"], unfollowed := true, recurses := true, apart := false, narrowed := true }
def InvoiceRunsUptoSaid : Prop := invoiceRunsUptoRow.holds Try.pinned (OpenSpec.upto invoiceRunsSpec)

/-- 'chargenetlaw44.InvoiceCredits', WHERE WHAT IT READS IS OF BULK AT MOST 1048576: true; the input reads as it did. -/
def invoiceCreditsUptoRow : OpenClaim := { program := "ytadgdbakgmjekaa", sum := "de492ae69927a64268041e47d91173e134a911363759689467d62d649de12091", func := "chargenet/chargenetlaw44.InvoiceCredits", spec := "invoiceCredits", inPlace := ["math/bits.Add64"], unfollowed := true, recurses := true, apart := false, narrowed := true }
def InvoiceCreditsUptoSaid : Prop := invoiceCreditsUptoRow.holds Try.pinned (OpenSpec.upto invoiceCreditsSpec)

/-- 'chargenetlaw44.InvoiceSums', WHERE WHAT IT READS IS OF BULK AT MOST 1048576: true; the input reads as it did. -/
def invoiceSumsUptoRow : OpenClaim := { program := "ytadgdbakgmjekaa", sum := "de492ae69927a64268041e47d91173e134a911363759689467d62d649de12091", func := "chargenet/chargenetlaw44.InvoiceSums", spec := "invoiceSums", inPlace := ["math/bits.Add64"], unfollowed := true, recurses := true, apart := false, narrowed := true }
def InvoiceSumsUptoSaid : Prop := invoiceSumsUptoRow.holds Try.pinned (OpenSpec.upto invoiceSumsSpec)

/-- 'chargenetlaw44.InvoiceOthers', WHERE WHAT IT READS IS OF BULK AT MOST 1048576: true; the input reads as it did. -/
def invoiceOthersUptoRow : OpenClaim := { program := "ytadgdbakgmjekaa", sum := "de492ae69927a64268041e47d91173e134a911363759689467d62d649de12091", func := "chargenet/chargenetlaw44.InvoiceOthers", spec := "invoiceOthers", inPlace := ["math/bits.Add64"], unfollowed := true, recurses := true, apart := false, narrowed := true }
def InvoiceOthersUptoSaid : Prop := invoiceOthersUptoRow.holds Try.pinned (OpenSpec.upto invoiceOthersSpec)

end Rows
end Go.Proofs.Ytadgdbakgmjekaa
