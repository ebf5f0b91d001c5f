/-
  No cell of these rows narrows 'for every input' (looked for: loops, veiled, ifaces, maps, wideKeys, modest, calm, conditions, laid).
  DERIVED. THE GIVEN ROWS OF THIS SEAT. 5 by the template 'for every input the law returns true; each argument reads behind the call as it read before'; 0 by the template 'total and deterministic' (their statements: YteolglmdfjddlaaTotals.lean).
  GIVEN WITH THE SEED: the statements are not yours to turn. If you find one false, say at which input.
  Laid BY PROGRAM, IN A SANDBOX (cutbox-rows.mjs): the forced cells as the released guide's own fill.sh prints them over the translation b432c62f5523a59e… (all of the seat's roots in one cut). By AI agents, Wed Nov 11 2026. No macro, syntax, notation, axiom, sorry.
-/
import Derived.Test.YteolglmdfjddlaaChecked
import GoSem.Claim
import GoSem.ClaimJoined
import GoSem.ClaimMapViews
import Derived.JoinedTies
import Derived.KernelRfl
namespace Go.Proofs.Yteolglmdfjddlaa
/- THE CELL 'sum', in the pinned program and in every row, IS THE sha256 OF THE DUMP (.gsa) THAT YteolglmdfjddlaaProg.lean LOADS. Nothing in Lean hashes anything: it is a label: what it is worth is what the hold of that sum in a sandbox is worth. -/
noncomputable def Try.pinned : Pinned := { name := "yteolglmdfjddlaa", sum := "b432c62f5523a59ee0c2df65da01984514d193dd181dc71540719e47f0240715", checked := Try.checked }
namespace Rows
def none {H : Type} : Left H := { results := [], args := [] }

/-- 'chargenetlaw25.LinkValid': WHATEVER THE INPUT: true; the input reads as it did. -/
def linkValidSpec : ChangeSpec := { name := "linkValid", fn := fun _ => fun
  | [d] => { results := [.lit (.bool true)], args := [d] }
  | _ => none }
def linkValidRow : OpenClaim := { program := "yteolglmdfjddlaa", sum := "b432c62f5523a59ee0c2df65da01984514d193dd181dc71540719e47f0240715", func := "chargenet/chargenetlaw25.LinkValid", spec := "linkValid", unfollowed := true, recurses := true, apart := false }
def LinkValidSaid : Prop := linkValidRow.holds Try.pinned (OpenSpec.ofChange linkValidSpec)

/-- ITS FALSE NEIGHBOUR: 'it returns false'. Refute it at one input. -/
def linkValidWrong : ChangeSpec := { name := "linkValid", fn := fun _ => fun
  | [d] => { results := [.lit (.bool false)], args := [d] }
  | _ => none }
def LinkValidWrongFalsely : Prop := linkValidRow.holds Try.pinned (OpenSpec.ofChange linkValidWrong)

/-- 'chargenetlaw25.LinkOwns': WHATEVER THE INPUT: true; the input reads as it did. -/
def linkOwnsSpec : ChangeSpec := { name := "linkOwns", fn := fun _ => fun
  | [d1, d2] => { results := [.lit (.bool true)], args := [d1, d2] }
  | _ => none }
def linkOwnsRow : OpenClaim := { program := "yteolglmdfjddlaa", sum := "b432c62f5523a59ee0c2df65da01984514d193dd181dc71540719e47f0240715", func := "chargenet/chargenetlaw25.LinkOwns", spec := "linkOwns", unfollowed := true, recurses := true, apart := false }
def LinkOwnsSaid : Prop := linkOwnsRow.holds Try.pinned (OpenSpec.ofChange linkOwnsSpec)

/-- ITS FALSE NEIGHBOUR: 'it returns false'. Refute it at one input. -/
def linkOwnsWrong : ChangeSpec := { name := "linkOwns", fn := fun _ => fun
  | [d1, d2] => { results := [.lit (.bool false)], args := [d1, d2] }
  | _ => none }
def LinkOwnsWrongFalsely : Prop := linkOwnsRow.holds Try.pinned (OpenSpec.ofChange linkOwnsWrong)

/-- 'chargenetlaw25.LinkPlay': WHATEVER THE INPUT: true; the input reads as it did. -/
def linkPlaySpec : ChangeSpec := { name := "linkPlay", fn := fun _ => fun
  | [d1, d2, d3] => { results := [.lit (.bool true)], args := [d1, d2, d3] }
  | _ => none }
def linkPlayRow : OpenClaim := { program := "yteolglmdfjddlaa", sum := "b432c62f5523a59ee0c2df65da01984514d193dd181dc71540719e47f0240715", func := "chargenet/chargenetlaw25.LinkPlay", spec := "linkPlay", unfollowed := true, recurses := true, apart := false }
def LinkPlaySaid : Prop := linkPlayRow.holds Try.pinned (OpenSpec.ofChange linkPlaySpec)

/-- ITS FALSE NEIGHBOUR: 'it returns false'. Refute it at one input. -/
def linkPlayWrong : ChangeSpec := { name := "linkPlay", fn := fun _ => fun
  | [d1, d2, d3] => { results := [.lit (.bool false)], args := [d1, d2, d3] }
  | _ => none }
def LinkPlayWrongFalsely : Prop := linkPlayRow.holds Try.pinned (OpenSpec.ofChange linkPlayWrong)

/-- 'chargenetlaw25.LinkLate': WHATEVER THE INPUT: true; the input reads as it did. -/
def linkLateSpec : ChangeSpec := { name := "linkLate", fn := fun _ => fun
  | [d1, d2, d3] => { results := [.lit (.bool true)], args := [d1, d2, d3] }
  | _ => none }
def linkLateRow : OpenClaim := { program := "yteolglmdfjddlaa", sum := "b432c62f5523a59ee0c2df65da01984514d193dd181dc71540719e47f0240715", func := "chargenet/chargenetlaw25.LinkLate", spec := "linkLate", unfollowed := true, recurses := true, apart := false }
def LinkLateSaid : Prop := linkLateRow.holds Try.pinned (OpenSpec.ofChange linkLateSpec)

/-- ITS FALSE NEIGHBOUR: 'it returns false'. Refute it at one input. -/
def linkLateWrong : ChangeSpec := { name := "linkLate", fn := fun _ => fun
  | [d1, d2, d3] => { results := [.lit (.bool false)], args := [d1, d2, d3] }
  | _ => none }
def LinkLateWrongFalsely : Prop := linkLateRow.holds Try.pinned (OpenSpec.ofChange linkLateWrong)

/-- 'chargenetlaw25.LinkOrder': WHATEVER THE INPUT: true; the input reads as it did. -/
def linkOrderSpec : ChangeSpec := { name := "linkOrder", fn := fun _ => fun
  | [d1, d2, d3] => { results := [.lit (.bool true)], args := [d1, d2, d3] }
  | _ => none }
def linkOrderRow : OpenClaim := { program := "yteolglmdfjddlaa", sum := "b432c62f5523a59ee0c2df65da01984514d193dd181dc71540719e47f0240715", func := "chargenet/chargenetlaw25.LinkOrder", spec := "linkOrder", unfollowed := true, recurses := true, apart := false }
def LinkOrderSaid : Prop := linkOrderRow.holds Try.pinned (OpenSpec.ofChange linkOrderSpec)

/-- ITS FALSE NEIGHBOUR: 'it returns false'. Refute it at one input. -/
def linkOrderWrong : ChangeSpec := { name := "linkOrder", fn := fun _ => fun
  | [d1, d2, d3] => { results := [.lit (.bool false)], args := [d1, d2, d3] }
  | _ => none }
def LinkOrderWrongFalsely : Prop := linkOrderRow.holds Try.pinned (OpenSpec.ofChange linkOrderWrong)

/- THE SECOND FORM. 'bulk': how many values and letters a reading holds, each counted each time it is reached (what is shared counts as often as it is met; a slice's spare places count too). A statement '..UptoSaid' is the law's where the arguments, and the package variables that the reading takes, are together of bulk at most 1048576: NARROWER than '..Said'. Prove '..Said' where nothing that the law and all that it calls make is longer than what came in: it says more and counts as full. Else prove '..UptoSaid'. A law counts once. -/
mutual
def uptoBulk {H : Type} : DataW H → Nat
  | .lit (.string bytes) => bytes.length + 1
  | .lit _ => 1
  | .nil => 1
  | .ptr d => uptoBulk d + 1
  | .slice elems spare => uptoBulkAll elems + uptoBulkAll spare + 1
  | .agg parts => uptoBulkAll parts + 1
  | .iface _ d => uptoBulk d + 1
  | .map entries => uptoBulkEntries entries + 1
  | .held _ => 1
def uptoBulkAll {H : Type} : List (DataW H) → Nat
  | [] => 0
  | d :: r => uptoBulk d + uptoBulkAll r
def uptoBulkEntries {H : Type} : List (Lit × DataW H) → Nat
  | [] => 0
  | x :: r => uptoBulkEntry x + uptoBulkEntries r
def uptoBulkEntry {H : Type} : Lit × DataW H → Nat
  | (.string bytes, d) => bytes.length + uptoBulk d + 1
  | (_, d) => uptoBulk d + 1
 end
def uptoSmall : (H : Type) → List (DataW H) → Bool := fun _ ds => decide (uptoBulkAll ds ≤ 1048576)
def OpenSpec.upto (s : _root_.Go.ChangeSpec) : _root_.Go.OpenSpec := { _root_.Go.OpenSpec.ofChange s with cond := some uptoSmall }

/-- 'chargenetlaw25.LinkValid', WHERE WHAT IT READS IS OF BULK AT MOST 1048576: true; the input reads as it did. -/
def linkValidUptoRow : OpenClaim := { program := "yteolglmdfjddlaa", sum := "b432c62f5523a59ee0c2df65da01984514d193dd181dc71540719e47f0240715", func := "chargenet/chargenetlaw25.LinkValid", spec := "linkValid", unfollowed := true, recurses := true, apart := false, narrowed := true }
def LinkValidUptoSaid : Prop := linkValidUptoRow.holds Try.pinned (OpenSpec.upto linkValidSpec)

/-- 'chargenetlaw25.LinkOwns', WHERE WHAT IT READS IS OF BULK AT MOST 1048576: true; the input reads as it did. -/
def linkOwnsUptoRow : OpenClaim := { program := "yteolglmdfjddlaa", sum := "b432c62f5523a59ee0c2df65da01984514d193dd181dc71540719e47f0240715", func := "chargenet/chargenetlaw25.LinkOwns", spec := "linkOwns", unfollowed := true, recurses := true, apart := false, narrowed := true }
def LinkOwnsUptoSaid : Prop := linkOwnsUptoRow.holds Try.pinned (OpenSpec.upto linkOwnsSpec)

/-- 'chargenetlaw25.LinkPlay', WHERE WHAT IT READS IS OF BULK AT MOST 1048576: true; the input reads as it did. -/
def linkPlayUptoRow : OpenClaim := { program := "yteolglmdfjddlaa", sum := "b432c62f5523a59ee0c2df65da01984514d193dd181dc71540719e47f0240715", func := "chargenet/chargenetlaw25.LinkPlay", spec := "linkPlay", unfollowed := true, recurses := true, apart := false, narrowed := true }
def LinkPlayUptoSaid : Prop := linkPlayUptoRow.holds Try.pinned (OpenSpec.upto linkPlaySpec)

/-- 'chargenetlaw25.LinkLate', WHERE WHAT IT READS IS OF BULK AT MOST 1048576: true; the input reads as it did. -/
def linkLateUptoRow : OpenClaim := { program := "yteolglmdfjddlaa", sum := "b432c62f5523a59ee0c2df65da01984514d193dd181dc71540719e47f0240715", func := "chargenet/chargenetlaw25.LinkLate", spec := "linkLate", unfollowed := true, recurses := true, apart := false, narrowed := true }
def LinkLateUptoSaid : Prop := linkLateUptoRow.holds Try.pinned (OpenSpec.upto linkLateSpec)

/-- 'chargenetlaw25.LinkOrder', WHERE WHAT IT READS IS OF BULK AT MOST 1048576: true; the input reads as it did. -/
def linkOrderUptoRow : OpenClaim := { program := "yteolglmdfjddlaa", sum := "b432c62f5523a59ee0c2df65da01984514d193dd181dc71540719e47f0240715", func := "chargenet/chargenetlaw25.LinkOrder", spec := "linkOrder", unfollowed := true, recurses := true, apart := false, narrowed := true }
def LinkOrderUptoSaid : Prop := linkOrderUptoRow.holds Try.pinned (OpenSpec.upto linkOrderSpec)

end Rows
end Go.Proofs.Yteolglmdfjddlaa
