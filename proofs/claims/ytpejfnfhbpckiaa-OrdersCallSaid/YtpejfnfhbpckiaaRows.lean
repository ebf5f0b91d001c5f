/-
  No cell of these rows narrows 'for every input' (looked for: loops, veiled, ifaces, maps, wideKeys, modest, calm, conditions, laid).
  DERIVED. THE GIVEN ROWS OF THIS SEAT. 5 by the template 'for every input the law returns true; each argument reads behind the call as it read before'; 0 by the template 'total and deterministic' (their statements: YtpejfnfhbpckiaaTotals.lean).
  GIVEN WITH THE SEED: the statements are not yours to turn. If you find one false, say at which input.
  Laid BY PROGRAM, IN A SANDBOX (cutbox-rows.mjs): the forced cells as the released guide's own fill.sh prints them over the translation 4beeb8dc1c476de1… (all of the seat's roots in one cut). By AI agents, Wed Nov 11 2026. No macro, syntax, notation, axiom, sorry.
-/
import Derived.Test.YtpejfnfhbpckiaaChecked
import GoSem.Claim
import GoSem.ClaimJoined
import GoSem.ClaimMapViews
import Derived.JoinedTies
import Derived.KernelRfl
namespace Go.Proofs.Ytpejfnfhbpckiaa
/- THE CELL 'sum', in the pinned program and in every row, IS THE sha256 OF THE DUMP (.gsa) THAT YtpejfnfhbpckiaaProg.lean LOADS. Nothing in Lean hashes anything: it is a label: what it is worth is what the hold of that sum in a sandbox is worth. -/
noncomputable def Try.pinned : Pinned := { name := "ytpejfnfhbpckiaa", sum := "4beeb8dc1c476de1675bda00345f2ea46024cdf5cdcaa7c1ae1b668893ca9dcc", checked := Try.checked }
namespace Rows
def none {H : Type} : Left H := { results := [], args := [] }

/-- 'chargenetlaw50.OrdersValid': WHATEVER THE INPUT: true; the input reads as it did. -/
def ordersValidSpec : ChangeSpec := { name := "ordersValid", fn := fun _ => fun
  | [d] => { results := [.lit (.bool true)], args := [d] }
  | _ => none }
def ordersValidRow : OpenClaim := { program := "ytpejfnfhbpckiaa", sum := "4beeb8dc1c476de1675bda00345f2ea46024cdf5cdcaa7c1ae1b668893ca9dcc", func := "chargenet/chargenetlaw50.OrdersValid", spec := "ordersValid", apart := false }
def OrdersValidSaid : Prop := ordersValidRow.holds Try.pinned (OpenSpec.ofChange ordersValidSpec)

/-- ITS FALSE NEIGHBOUR: 'it returns false'. Refute it at one input. -/
def ordersValidWrong : ChangeSpec := { name := "ordersValid", fn := fun _ => fun
  | [d] => { results := [.lit (.bool false)], args := [d] }
  | _ => none }
def OrdersValidWrongFalsely : Prop := ordersValidRow.holds Try.pinned (OpenSpec.ofChange ordersValidWrong)

/-- 'chargenetlaw50.OrdersOne': WHATEVER THE INPUT: true; the input reads as it did. -/
def ordersOneSpec : ChangeSpec := { name := "ordersOne", fn := fun _ => fun
  | [d1, d2, d3, d4] => { results := [.lit (.bool true)], args := [d1, d2, d3, d4] }
  | _ => none }
def ordersOneRow : OpenClaim := { program := "ytpejfnfhbpckiaa", sum := "4beeb8dc1c476de1675bda00345f2ea46024cdf5cdcaa7c1ae1b668893ca9dcc", func := "chargenet/chargenetlaw50.OrdersOne", spec := "ordersOne", apart := false }
def OrdersOneSaid : Prop := ordersOneRow.holds Try.pinned (OpenSpec.ofChange ordersOneSpec)

/-- ITS FALSE NEIGHBOUR: 'it returns false'. Refute it at one input. -/
def ordersOneWrong : ChangeSpec := { name := "ordersOne", fn := fun _ => fun
  | [d1, d2, d3, d4] => { results := [.lit (.bool false)], args := [d1, d2, d3, d4] }
  | _ => none }
def OrdersOneWrongFalsely : Prop := ordersOneRow.holds Try.pinned (OpenSpec.ofChange ordersOneWrong)

/-- 'chargenetlaw50.OrdersCall': WHATEVER THE INPUT: true; the input reads as it did. -/
def ordersCallSpec : ChangeSpec := { name := "ordersCall", fn := fun _ => fun
  | [d1, d2] => { results := [.lit (.bool true)], args := [d1, d2] }
  | _ => none }
def ordersCallRow : OpenClaim := { program := "ytpejfnfhbpckiaa", sum := "4beeb8dc1c476de1675bda00345f2ea46024cdf5cdcaa7c1ae1b668893ca9dcc", func := "chargenet/chargenetlaw50.OrdersCall", spec := "ordersCall", apart := false }
def OrdersCallSaid : Prop := ordersCallRow.holds Try.pinned (OpenSpec.ofChange ordersCallSpec)

/-- ITS FALSE NEIGHBOUR: 'it returns false'. Refute it at one input. -/
def ordersCallWrong : ChangeSpec := { name := "ordersCall", fn := fun _ => fun
  | [d1, d2] => { results := [.lit (.bool false)], args := [d1, d2] }
  | _ => none }
def OrdersCallWrongFalsely : Prop := ordersCallRow.holds Try.pinned (OpenSpec.ofChange ordersCallWrong)

/-- 'chargenetlaw50.OrdersPlay': WHATEVER THE INPUT: true; the input reads as it did. -/
def ordersPlaySpec : ChangeSpec := { name := "ordersPlay", fn := fun _ => fun
  | [d] => { results := [.lit (.bool true)], args := [d] }
  | _ => none }
def ordersPlayRow : OpenClaim := { program := "ytpejfnfhbpckiaa", sum := "4beeb8dc1c476de1675bda00345f2ea46024cdf5cdcaa7c1ae1b668893ca9dcc", func := "chargenet/chargenetlaw50.OrdersPlay", spec := "ordersPlay", apart := false }
def OrdersPlaySaid : Prop := ordersPlayRow.holds Try.pinned (OpenSpec.ofChange ordersPlaySpec)

/-- ITS FALSE NEIGHBOUR: 'it returns false'. Refute it at one input. -/
def ordersPlayWrong : ChangeSpec := { name := "ordersPlay", fn := fun _ => fun
  | [d] => { results := [.lit (.bool false)], args := [d] }
  | _ => none }
def OrdersPlayWrongFalsely : Prop := ordersPlayRow.holds Try.pinned (OpenSpec.ofChange ordersPlayWrong)

/-- 'chargenetlaw50.OrdersTime': WHATEVER THE INPUT: true; the input reads as it did. -/
def ordersTimeSpec : ChangeSpec := { name := "ordersTime", fn := fun _ => fun
  | [d1, d2, d3] => { results := [.lit (.bool true)], args := [d1, d2, d3] }
  | _ => none }
def ordersTimeRow : OpenClaim := { program := "ytpejfnfhbpckiaa", sum := "4beeb8dc1c476de1675bda00345f2ea46024cdf5cdcaa7c1ae1b668893ca9dcc", func := "chargenet/chargenetlaw50.OrdersTime", spec := "ordersTime", apart := false }
def OrdersTimeSaid : Prop := ordersTimeRow.holds Try.pinned (OpenSpec.ofChange ordersTimeSpec)

/-- ITS FALSE NEIGHBOUR: 'it returns false'. Refute it at one input. -/
def ordersTimeWrong : ChangeSpec := { name := "ordersTime", fn := fun _ => fun
  | [d1, d2, d3] => { results := [.lit (.bool false)], args := [d1, d2, d3] }
  | _ => none }
def OrdersTimeWrongFalsely : Prop := ordersTimeRow.holds Try.pinned (OpenSpec.ofChange ordersTimeWrong)

/- THE SECOND FORM. 'bulk': how many values and letters a reading holds, each counted each time it is reached (what is shared counts as often as it is met; a slice's spare places count too). A statement '..UptoSaid' is the law's where the arguments, and the package variables that the reading takes, are together of bulk at most 1048576: NARROWER than '..Said'. Prove '..Said' where nothing that the law and all that it calls make is longer than what came in: it says more and counts as full. Else prove '..UptoSaid'. A law counts once. -/
mutual
def uptoBulk {H : Type} : DataW H → Nat
  | .lit (.string bytes) => bytes.length + 1
  | .lit _ => 1
  | .nil => 1
  | .ptr d => uptoBulk d + 1
  | .slice elems spare => uptoBulkAll elems + uptoBulkAll spare + 1
  | .agg parts => uptoBulkAll parts + 1
  | .iface _ d => uptoBulk d + 1
  | .map entries => uptoBulkEntries entries + 1
  | .held _ => 1
def uptoBulkAll {H : Type} : List (DataW H) → Nat
  | [] => 0
  | d :: r => uptoBulk d + uptoBulkAll r
def uptoBulkEntries {H : Type} : List (Lit × DataW H) → Nat
  | [] => 0
  | x :: r => uptoBulkEntry x + uptoBulkEntries r
def uptoBulkEntry {H : Type} : Lit × DataW H → Nat
  | (.string bytes, d) => bytes.length + uptoBulk d + 1
  | (_, d) => uptoBulk d + 1
 end
def uptoSmall : (H : Type) → List (DataW H) → Bool := fun _ ds => decide (uptoBulkAll ds ≤ 1048576)
def OpenSpec.upto (s : _root_.Go.ChangeSpec) : _root_.Go.OpenSpec := { _root_.Go.OpenSpec.ofChange s with cond := some uptoSmall }

/-- 'chargenetlaw50.OrdersValid', WHERE WHAT IT READS IS OF BULK AT MOST 1048576: true; the input reads as it did. -/
def ordersValidUptoRow : OpenClaim := { program := "ytpejfnfhbpckiaa", sum := "4beeb8dc1c476de1675bda00345f2ea46024cdf5cdcaa7c1ae1b668893ca9dcc", func := "chargenet/chargenetlaw50.OrdersValid", spec := "ordersValid", apart := false, narrowed := true }
def OrdersValidUptoSaid : Prop := ordersValidUptoRow.holds Try.pinned (OpenSpec.upto ordersValidSpec)

/-- 'chargenetlaw50.OrdersOne', WHERE WHAT IT READS IS OF BULK AT MOST 1048576: true; the input reads as it did. -/
def ordersOneUptoRow : OpenClaim := { program := "ytpejfnfhbpckiaa", sum := "4beeb8dc1c476de1675bda00345f2ea46024cdf5cdcaa7c1ae1b668893ca9dcc", func := "chargenet/chargenetlaw50.OrdersOne", spec := "ordersOne", apart := false, narrowed := true }
def OrdersOneUptoSaid : Prop := ordersOneUptoRow.holds Try.pinned (OpenSpec.upto ordersOneSpec)

/-- 'chargenetlaw50.OrdersCall', WHERE WHAT IT READS IS OF BULK AT MOST 1048576: true; the input reads as it did. -/
def ordersCallUptoRow : OpenClaim := { program := "ytpejfnfhbpckiaa", sum := "4beeb8dc1c476de1675bda00345f2ea46024cdf5cdcaa7c1ae1b668893ca9dcc", func := "chargenet/chargenetlaw50.OrdersCall", spec := "ordersCall", apart := false, narrowed := true }
def OrdersCallUptoSaid : Prop := ordersCallUptoRow.holds Try.pinned (OpenSpec.upto ordersCallSpec)

/-- 'chargenetlaw50.OrdersPlay', WHERE WHAT IT READS IS OF BULK AT MOST 1048576: true; the input reads as it did. -/
def ordersPlayUptoRow : OpenClaim := { program := "ytpejfnfhbpckiaa", sum := "4beeb8dc1c476de1675bda00345f2ea46024cdf5cdcaa7c1ae1b668893ca9dcc", func := "chargenet/chargenetlaw50.OrdersPlay", spec := "ordersPlay", apart := false, narrowed := true }
def OrdersPlayUptoSaid : Prop := ordersPlayUptoRow.holds Try.pinned (OpenSpec.upto ordersPlaySpec)

/-- 'chargenetlaw50.OrdersTime', WHERE WHAT IT READS IS OF BULK AT MOST 1048576: true; the input reads as it did. -/
def ordersTimeUptoRow : OpenClaim := { program := "ytpejfnfhbpckiaa", sum := "4beeb8dc1c476de1675bda00345f2ea46024cdf5cdcaa7c1ae1b668893ca9dcc", func := "chargenet/chargenetlaw50.OrdersTime", spec := "ordersTime", apart := false, narrowed := true }
def OrdersTimeUptoSaid : Prop := ordersTimeUptoRow.holds Try.pinned (OpenSpec.upto ordersTimeSpec)

end Rows
end Go.Proofs.Ytpejfnfhbpckiaa
