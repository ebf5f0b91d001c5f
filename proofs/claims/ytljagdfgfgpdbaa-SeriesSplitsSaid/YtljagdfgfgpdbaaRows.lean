/-
  No cell of these rows narrows 'for every input' (looked for: loops, veiled, ifaces, maps, wideKeys, modest, calm, conditions, laid).
  DERIVED. THE GIVEN ROWS OF THIS SEAT. 8 by the template 'for every input the law returns true; each argument reads behind the call as it read before'; 0 by the template 'total and deterministic' (their statements: YtljagdfgfgpdbaaTotals.lean).
  GIVEN WITH THE SEED: the statements are not yours to turn. If you find one false, say at which input.
  Laid BY PROGRAM, IN A SANDBOX (cutbox-rows.mjs): the forced cells as the released guide's own fill.sh prints them over the translation 03167712da55562b… (all of the seat's roots in one cut). By AI agents, Wed Nov 11 2026. No macro, syntax, notation, axiom, sorry.
-/
import Derived.Test.YtljagdfgfgpdbaaChecked
import GoSem.Claim
import GoSem.ClaimJoined
import GoSem.ClaimMapViews
import Derived.JoinedTies
import Derived.KernelRfl
namespace Go.Proofs.Ytljagdfgfgpdbaa
/- THE CELL 'sum', in the pinned program and in every row, IS THE sha256 OF THE DUMP (.gsa) THAT YtljagdfgfgpdbaaProg.lean LOADS. Nothing in Lean hashes anything: it is a label: what it is worth is what the hold of that sum in a sandbox is worth. -/
noncomputable def Try.pinned : Pinned := { name := "ytljagdfgfgpdbaa", sum := "03167712da55562bdb166b8de88aa21839eab5f6918734769998318b3fbd1eab", checked := Try.checked }
namespace Rows
def none {H : Type} : Left H := { results := [], args := [] }

/-- 'chargenetlaw04.SeriesAdd': WHATEVER THE INPUT: true; the input reads as it did. -/
def seriesAddSpec : ChangeSpec := { name := "seriesAdd", fn := fun _ => fun
  | [d1, d2] => { results := [.lit (.bool true)], args := [d1, d2] }
  | _ => none }
def seriesAddRow : OpenClaim := { program := "ytljagdfgfgpdbaa", sum := "03167712da55562bdb166b8de88aa21839eab5f6918734769998318b3fbd1eab", func := "chargenet/chargenetlaw04.SeriesAdd", spec := "seriesAdd", unfollowed := true, recurses := true, apart := false }
def SeriesAddSaid : Prop := seriesAddRow.holds Try.pinned (OpenSpec.ofChange seriesAddSpec)

/-- ITS FALSE NEIGHBOUR: 'it returns false'. Refute it at one input. -/
def seriesAddWrong : ChangeSpec := { name := "seriesAdd", fn := fun _ => fun
  | [d1, d2] => { results := [.lit (.bool false)], args := [d1, d2] }
  | _ => none }
def SeriesAddWrongFalsely : Prop := seriesAddRow.holds Try.pinned (OpenSpec.ofChange seriesAddWrong)

/-- 'chargenetlaw04.SeriesLeast': WHATEVER THE INPUT: true; the input reads as it did. -/
def seriesLeastSpec : ChangeSpec := { name := "seriesLeast", fn := fun _ => fun
  | [d1, d2] => { results := [.lit (.bool true)], args := [d1, d2] }
  | _ => none }
def seriesLeastRow : OpenClaim := { program := "ytljagdfgfgpdbaa", sum := "03167712da55562bdb166b8de88aa21839eab5f6918734769998318b3fbd1eab", func := "chargenet/chargenetlaw04.SeriesLeast", spec := "seriesLeast", unfollowed := true, recurses := true, apart := false }
def SeriesLeastSaid : Prop := seriesLeastRow.holds Try.pinned (OpenSpec.ofChange seriesLeastSpec)

/-- ITS FALSE NEIGHBOUR: 'it returns false'. Refute it at one input. -/
def seriesLeastWrong : ChangeSpec := { name := "seriesLeast", fn := fun _ => fun
  | [d1, d2] => { results := [.lit (.bool false)], args := [d1, d2] }
  | _ => none }
def SeriesLeastWrongFalsely : Prop := seriesLeastRow.holds Try.pinned (OpenSpec.ofChange seriesLeastWrong)

/-- 'chargenetlaw04.SeriesClip': WHATEVER THE INPUT: true; the input reads as it did. -/
def seriesClipSpec : ChangeSpec := { name := "seriesClip", fn := fun _ => fun
  | [d1, d2] => { results := [.lit (.bool true)], args := [d1, d2] }
  | _ => none }
def seriesClipRow : OpenClaim := { program := "ytljagdfgfgpdbaa", sum := "03167712da55562bdb166b8de88aa21839eab5f6918734769998318b3fbd1eab", func := "chargenet/chargenetlaw04.SeriesClip", spec := "seriesClip", unfollowed := true, recurses := true, apart := false }
def SeriesClipSaid : Prop := seriesClipRow.holds Try.pinned (OpenSpec.ofChange seriesClipSpec)

/-- ITS FALSE NEIGHBOUR: 'it returns false'. Refute it at one input. -/
def seriesClipWrong : ChangeSpec := { name := "seriesClip", fn := fun _ => fun
  | [d1, d2] => { results := [.lit (.bool false)], args := [d1, d2] }
  | _ => none }
def SeriesClipWrongFalsely : Prop := seriesClipRow.holds Try.pinned (OpenSpec.ofChange seriesClipWrong)

/-- 'chargenetlaw04.SeriesShift': WHATEVER THE INPUT: true; the input reads as it did. -/
def seriesShiftSpec : ChangeSpec := { name := "seriesShift", fn := fun _ => fun
  | [d1, d2] => { results := [.lit (.bool true)], args := [d1, d2] }
  | _ => none }
def seriesShiftRow : OpenClaim := { program := "ytljagdfgfgpdbaa", sum := "03167712da55562bdb166b8de88aa21839eab5f6918734769998318b3fbd1eab", func := "chargenet/chargenetlaw04.SeriesShift", spec := "seriesShift", unfollowed := true, recurses := true, apart := false }
def SeriesShiftSaid : Prop := seriesShiftRow.holds Try.pinned (OpenSpec.ofChange seriesShiftSpec)

/-- ITS FALSE NEIGHBOUR: 'it returns false'. Refute it at one input. -/
def seriesShiftWrong : ChangeSpec := { name := "seriesShift", fn := fun _ => fun
  | [d1, d2] => { results := [.lit (.bool false)], args := [d1, d2] }
  | _ => none }
def SeriesShiftWrongFalsely : Prop := seriesShiftRow.holds Try.pinned (OpenSpec.ofChange seriesShiftWrong)

/-- 'chargenetlaw04.SeriesEnergy': WHATEVER THE INPUT: true; the input reads as it did. -/
def seriesEnergySpec : ChangeSpec := { name := "seriesEnergy", fn := fun _ => fun
  | [d1, d2] => { results := [.lit (.bool true)], args := [d1, d2] }
  | _ => none }
def seriesEnergyRow : OpenClaim := { program := "ytljagdfgfgpdbaa", sum := "03167712da55562bdb166b8de88aa21839eab5f6918734769998318b3fbd1eab", func := "chargenet/chargenetlaw04.SeriesEnergy", spec := "seriesEnergy", unfollowed := true, recurses := true, apart := false }
def SeriesEnergySaid : Prop := seriesEnergyRow.holds Try.pinned (OpenSpec.ofChange seriesEnergySpec)

/-- ITS FALSE NEIGHBOUR: 'it returns false'. Refute it at one input. -/
def seriesEnergyWrong : ChangeSpec := { name := "seriesEnergy", fn := fun _ => fun
  | [d1, d2] => { results := [.lit (.bool false)], args := [d1, d2] }
  | _ => none }
def SeriesEnergyWrongFalsely : Prop := seriesEnergyRow.holds Try.pinned (OpenSpec.ofChange seriesEnergyWrong)

/-- 'chargenetlaw04.SeriesPointwise': WHATEVER THE INPUT: true; the input reads as it did. -/
def seriesPointwiseSpec : ChangeSpec := { name := "seriesPointwise", fn := fun _ => fun
  | [d1, d2, d3, d4, d5] => { results := [.lit (.bool true)], args := [d1, d2, d3, d4, d5] }
  | _ => none }
def seriesPointwiseRow : OpenClaim := { program := "ytljagdfgfgpdbaa", sum := "03167712da55562bdb166b8de88aa21839eab5f6918734769998318b3fbd1eab", func := "chargenet/chargenetlaw04.SeriesPointwise", spec := "seriesPointwise", unfollowed := true, recurses := true, apart := false }
def SeriesPointwiseSaid : Prop := seriesPointwiseRow.holds Try.pinned (OpenSpec.ofChange seriesPointwiseSpec)

/-- ITS FALSE NEIGHBOUR: 'it returns false'. Refute it at one input. -/
def seriesPointwiseWrong : ChangeSpec := { name := "seriesPointwise", fn := fun _ => fun
  | [d1, d2, d3, d4, d5] => { results := [.lit (.bool false)], args := [d1, d2, d3, d4, d5] }
  | _ => none }
def SeriesPointwiseWrongFalsely : Prop := seriesPointwiseRow.holds Try.pinned (OpenSpec.ofChange seriesPointwiseWrong)

/-- 'chargenetlaw04.SeriesSplits': WHATEVER THE INPUT: true; the input reads as it did. -/
def seriesSplitsSpec : ChangeSpec := { name := "seriesSplits", fn := fun _ => fun
  | [d1, d2, d3, d4] => { results := [.lit (.bool true)], args := [d1, d2, d3, d4] }
  | _ => none }
def seriesSplitsRow : OpenClaim := { program := "ytljagdfgfgpdbaa", sum := "03167712da55562bdb166b8de88aa21839eab5f6918734769998318b3fbd1eab", func := "chargenet/chargenetlaw04.SeriesSplits", spec := "seriesSplits", unfollowed := true, recurses := true, apart := false }
def SeriesSplitsSaid : Prop := seriesSplitsRow.holds Try.pinned (OpenSpec.ofChange seriesSplitsSpec)

/-- ITS FALSE NEIGHBOUR: 'it returns false'. Refute it at one input. -/
def seriesSplitsWrong : ChangeSpec := { name := "seriesSplits", fn := fun _ => fun
  | [d1, d2, d3, d4] => { results := [.lit (.bool false)], args := [d1, d2, d3, d4] }
  | _ => none }
def SeriesSplitsWrongFalsely : Prop := seriesSplitsRow.holds Try.pinned (OpenSpec.ofChange seriesSplitsWrong)

/-- 'chargenetlaw04.SeriesValid': WHATEVER THE INPUT: true; the input reads as it did. -/
def seriesValidSpec : ChangeSpec := { name := "seriesValid", fn := fun _ => fun
  | [d1, d2] => { results := [.lit (.bool true)], args := [d1, d2] }
  | _ => none }
def seriesValidRow : OpenClaim := { program := "ytljagdfgfgpdbaa", sum := "03167712da55562bdb166b8de88aa21839eab5f6918734769998318b3fbd1eab", func := "chargenet/chargenetlaw04.SeriesValid", spec := "seriesValid", unfollowed := true, recurses := true, apart := false }
def SeriesValidSaid : Prop := seriesValidRow.holds Try.pinned (OpenSpec.ofChange seriesValidSpec)

/-- ITS FALSE NEIGHBOUR: 'it returns false'. Refute it at one input. -/
def seriesValidWrong : ChangeSpec := { name := "seriesValid", fn := fun _ => fun
  | [d1, d2] => { results := [.lit (.bool false)], args := [d1, d2] }
  | _ => none }
def SeriesValidWrongFalsely : Prop := seriesValidRow.holds Try.pinned (OpenSpec.ofChange seriesValidWrong)

/- THE SECOND FORM. 'bulk': how many values and letters a reading holds, each counted each time it is reached (what is shared counts as often as it is met; a slice's spare places count too). A statement '..UptoSaid' is the law's where the arguments, and the package variables that the reading takes, are together of bulk at most 1048576: NARROWER than '..Said'. Prove '..Said' where nothing that the law and all that it calls make is longer than what came in: it says more and counts as full. Else prove '..UptoSaid'. A law counts once. -/
mutual
def uptoBulk {H : Type} : DataW H → Nat
  | .lit (.string bytes) => bytes.length + 1
  | .lit _ => 1
  | .nil => 1
  | .ptr d => uptoBulk d + 1
  | .slice elems spare => uptoBulkAll elems + uptoBulkAll spare + 1
  | .agg parts => uptoBulkAll parts + 1
  | .iface _ d => uptoBulk d + 1
  | .map entries => uptoBulkEntries entries + 1
  | .held _ => 1
def uptoBulkAll {H : Type} : List (DataW H) → Nat
  | [] => 0
  | d :: r => uptoBulk d + uptoBulkAll r
def uptoBulkEntries {H : Type} : List (Lit × DataW H) → Nat
  | [] => 0
  | x :: r => uptoBulkEntry x + uptoBulkEntries r
def uptoBulkEntry {H : Type} : Lit × DataW H → Nat
  | (.string bytes, d) => bytes.length + uptoBulk d + 1
  | (_, d) => uptoBulk d + 1
 end
def uptoSmall : (H : Type) → List (DataW H) → Bool := fun _ ds => decide (uptoBulkAll ds ≤ 1048576)
def OpenSpec.upto (s : _root_.Go.ChangeSpec) : _root_.Go.OpenSpec := { _root_.Go.OpenSpec.ofChange s with cond := some uptoSmall }

/-- 'chargenetlaw04.SeriesAdd', WHERE WHAT IT READS IS OF BULK AT MOST 1048576: true; the input reads as it did. -/
def seriesAddUptoRow : OpenClaim := { program := "ytljagdfgfgpdbaa", sum := "03167712da55562bdb166b8de88aa21839eab5f6918734769998318b3fbd1eab", func := "chargenet/chargenetlaw04.SeriesAdd", spec := "seriesAdd", unfollowed := true, recurses := true, apart := false, narrowed := true }
def SeriesAddUptoSaid : Prop := seriesAddUptoRow.holds Try.pinned (OpenSpec.upto seriesAddSpec)

/-- 'chargenetlaw04.SeriesLeast', WHERE WHAT IT READS IS OF BULK AT MOST 1048576: true; the input reads as it did. -/
def seriesLeastUptoRow : OpenClaim := { program := "ytljagdfgfgpdbaa", sum := "03167712da55562bdb166b8de88aa21839eab5f6918734769998318b3fbd1eab", func := "chargenet/chargenetlaw04.SeriesLeast", spec := "seriesLeast", unfollowed := true, recurses := true, apart := false, narrowed := true }
def SeriesLeastUptoSaid : Prop := seriesLeastUptoRow.holds Try.pinned (OpenSpec.upto seriesLeastSpec)

/-- 'chargenetlaw04.SeriesClip', WHERE WHAT IT READS IS OF BULK AT MOST 1048576: true; the input reads as it did. -/
def seriesClipUptoRow : OpenClaim := { program := "ytljagdfgfgpdbaa", sum := "03167712da55562bdb166b8de88aa21839eab5f6918734769998318b3fbd1eab", func := "chargenet/chargenetlaw04.SeriesClip", spec := "seriesClip", unfollowed := true, recurses := true, apart := false, narrowed := true }
def SeriesClipUptoSaid : Prop := seriesClipUptoRow.holds Try.pinned (OpenSpec.upto seriesClipSpec)

/-- 'chargenetlaw04.SeriesShift', WHERE WHAT IT READS IS OF BULK AT MOST 1048576: true; the input reads as it did. -/
def seriesShiftUptoRow : OpenClaim := { program := "ytljagdfgfgpdbaa", sum := "03167712da55562bdb166b8de88aa21839eab5f6918734769998318b3fbd1eab", func := "chargenet/chargenetlaw04.SeriesShift", spec := "seriesShift", unfollowed := true, recurses := true, apart := false, narrowed := true }
def SeriesShiftUptoSaid : Prop := seriesShiftUptoRow.holds Try.pinned (OpenSpec.upto seriesShiftSpec)

/-- 'chargenetlaw04.SeriesEnergy', WHERE WHAT IT READS IS OF BULK AT MOST 1048576: true; the input reads as it did. -/
def seriesEnergyUptoRow : OpenClaim := { program := "ytljagdfgfgpdbaa", sum := "03167712da55562bdb166b8de88aa21839eab5f6918734769998318b3fbd1eab", func := "chargenet/chargenetlaw04.SeriesEnergy", spec := "seriesEnergy", unfollowed := true, recurses := true, apart := false, narrowed := true }
def SeriesEnergyUptoSaid : Prop := seriesEnergyUptoRow.holds Try.pinned (OpenSpec.upto seriesEnergySpec)

/-- 'chargenetlaw04.SeriesPointwise', WHERE WHAT IT READS IS OF BULK AT MOST 1048576: true; the input reads as it did. -/
def seriesPointwiseUptoRow : OpenClaim := { program := "ytljagdfgfgpdbaa", sum := "03167712da55562bdb166b8de88aa21839eab5f6918734769998318b3fbd1eab", func := "chargenet/chargenetlaw04.SeriesPointwise", spec := "seriesPointwise", unfollowed := true, recurses := true, apart := false, narrowed := true }
def SeriesPointwiseUptoSaid : Prop := seriesPointwiseUptoRow.holds Try.pinned (OpenSpec.upto seriesPointwiseSpec)

/-- 'chargenetlaw04.SeriesSplits', WHERE WHAT IT READS IS OF BULK AT MOST 1048576: true; the input reads as it did. -/
def seriesSplitsUptoRow : OpenClaim := { program := "ytljagdfgfgpdbaa", sum := "03167712da55562bdb166b8de88aa21839eab5f6918734769998318b3fbd1eab", func := "chargenet/chargenetlaw04.SeriesSplits", spec := "seriesSplits", unfollowed := true, recurses := true, apart := false, narrowed := true }
def SeriesSplitsUptoSaid : Prop := seriesSplitsUptoRow.holds Try.pinned (OpenSpec.upto seriesSplitsSpec)

/-- 'chargenetlaw04.SeriesValid', WHERE WHAT IT READS IS OF BULK AT MOST 1048576: true; the input reads as it did. -/
def seriesValidUptoRow : OpenClaim := { program := "ytljagdfgfgpdbaa", sum := "03167712da55562bdb166b8de88aa21839eab5f6918734769998318b3fbd1eab", func := "chargenet/chargenetlaw04.SeriesValid", spec := "seriesValid", unfollowed := true, recurses := true, apart := false, narrowed := true }
def SeriesValidUptoSaid : Prop := seriesValidUptoRow.holds Try.pinned (OpenSpec.upto seriesValidSpec)

end Rows
end Go.Proofs.Ytljagdfgfgpdbaa
