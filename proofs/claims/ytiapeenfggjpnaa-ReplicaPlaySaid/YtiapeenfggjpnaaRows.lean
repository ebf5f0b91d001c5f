/-
  No cell of these rows narrows 'for every input' (looked for: loops, veiled, ifaces, maps, wideKeys, modest, calm, conditions, laid).
  DERIVED. THE GIVEN ROWS OF THIS SEAT. 7 by the template 'for every input the law returns true; each argument reads behind the call as it read before'; 0 by the template 'total and deterministic' (their statements: YtiapeenfggjpnaaTotals.lean).
  GIVEN WITH THE SEED: the statements are not yours to turn. If you find one false, say at which input.
  Laid BY PROGRAM, IN A SANDBOX (cutbox-rows.mjs): the forced cells as the released guide's own fill.sh prints them over the translation 9fa45e8a0221d6bf… (all of the seat's roots in one cut). By AI agents, Wed Nov 11 2026. No macro, syntax, notation, axiom, sorry.
-/
import Derived.Test.YtiapeenfggjpnaaChecked
import GoSem.Claim
import GoSem.ClaimJoined
import GoSem.ClaimMapViews
import Derived.JoinedTies
import Derived.KernelRfl
namespace Go.Proofs.Ytiapeenfggjpnaa
/- THE CELL 'sum', in the pinned program and in every row, IS THE sha256 OF THE DUMP (.gsa) THAT YtiapeenfggjpnaaProg.lean LOADS. Nothing in Lean hashes anything: it is a label: what it is worth is what the hold of that sum in a sandbox is worth. -/
noncomputable def Try.pinned : Pinned := { name := "ytiapeenfggjpnaa", sum := "9fa45e8a0221d6bf7a86325c40c7bc4b1333cef63d7db61a60a5ccdc8001cb8a", checked := Try.checked }
namespace Rows
def none {H : Type} : Left H := { results := [], args := [] }

/-- 'chargenetlaw38.ReplicaCall': WHATEVER THE INPUT: true; the input reads as it did. -/
def replicaCallSpec : ChangeSpec := { name := "replicaCall", fn := fun _ => fun
  | [d1, d2] => { results := [.lit (.bool true)], args := [d1, d2] }
  | _ => none }
def replicaCallRow : OpenClaim := { program := "ytiapeenfggjpnaa", sum := "9fa45e8a0221d6bf7a86325c40c7bc4b1333cef63d7db61a60a5ccdc8001cb8a", func := "chargenet/chargenetlaw38.ReplicaCall", spec := "replicaCall", unfollowed := true, recurses := true, apart := false }
def ReplicaCallSaid : Prop := replicaCallRow.holds Try.pinned (OpenSpec.ofChange replicaCallSpec)

/-- ITS FALSE NEIGHBOUR: 'it returns false'. Refute it at one input. -/
def replicaCallWrong : ChangeSpec := { name := "replicaCall", fn := fun _ => fun
  | [d1, d2] => { results := [.lit (.bool false)], args := [d1, d2] }
  | _ => none }
def ReplicaCallWrongFalsely : Prop := replicaCallRow.holds Try.pinned (OpenSpec.ofChange replicaCallWrong)

/-- 'chargenetlaw38.ReplicaKeeps': WHATEVER THE INPUT: true; the input reads as it did. -/
def replicaKeepsSpec : ChangeSpec := { name := "replicaKeeps", fn := fun _ => fun
  | [d1, d2] => { results := [.lit (.bool true)], args := [d1, d2] }
  | _ => none }
def replicaKeepsRow : OpenClaim := { program := "ytiapeenfggjpnaa", sum := "9fa45e8a0221d6bf7a86325c40c7bc4b1333cef63d7db61a60a5ccdc8001cb8a", func := "chargenet/chargenetlaw38.ReplicaKeeps", spec := "replicaKeeps", unfollowed := true, recurses := true, apart := false }
def ReplicaKeepsSaid : Prop := replicaKeepsRow.holds Try.pinned (OpenSpec.ofChange replicaKeepsSpec)

/-- ITS FALSE NEIGHBOUR: 'it returns false'. Refute it at one input. -/
def replicaKeepsWrong : ChangeSpec := { name := "replicaKeeps", fn := fun _ => fun
  | [d1, d2] => { results := [.lit (.bool false)], args := [d1, d2] }
  | _ => none }
def ReplicaKeepsWrongFalsely : Prop := replicaKeepsRow.holds Try.pinned (OpenSpec.ofChange replicaKeepsWrong)

/-- 'chargenetlaw38.ReplicaServes': WHATEVER THE INPUT: true; the input reads as it did. -/
def replicaServesSpec : ChangeSpec := { name := "replicaServes", fn := fun _ => fun
  | [d1, d2, d3] => { results := [.lit (.bool true)], args := [d1, d2, d3] }
  | _ => none }
def replicaServesRow : OpenClaim := { program := "ytiapeenfggjpnaa", sum := "9fa45e8a0221d6bf7a86325c40c7bc4b1333cef63d7db61a60a5ccdc8001cb8a", func := "chargenet/chargenetlaw38.ReplicaServes", spec := "replicaServes", unfollowed := true, recurses := true, apart := false }
def ReplicaServesSaid : Prop := replicaServesRow.holds Try.pinned (OpenSpec.ofChange replicaServesSpec)

/-- ITS FALSE NEIGHBOUR: 'it returns false'. Refute it at one input. -/
def replicaServesWrong : ChangeSpec := { name := "replicaServes", fn := fun _ => fun
  | [d1, d2, d3] => { results := [.lit (.bool false)], args := [d1, d2, d3] }
  | _ => none }
def ReplicaServesWrongFalsely : Prop := replicaServesRow.holds Try.pinned (OpenSpec.ofChange replicaServesWrong)

/-- 'chargenetlaw38.ReplicaOnce': WHATEVER THE INPUT: true; the input reads as it did. -/
def replicaOnceSpec : ChangeSpec := { name := "replicaOnce", fn := fun _ => fun
  | [d1, d2] => { results := [.lit (.bool true)], args := [d1, d2] }
  | _ => none }
def replicaOnceRow : OpenClaim := { program := "ytiapeenfggjpnaa", sum := "9fa45e8a0221d6bf7a86325c40c7bc4b1333cef63d7db61a60a5ccdc8001cb8a", func := "chargenet/chargenetlaw38.ReplicaOnce", spec := "replicaOnce", unfollowed := true, recurses := true, apart := false }
def ReplicaOnceSaid : Prop := replicaOnceRow.holds Try.pinned (OpenSpec.ofChange replicaOnceSpec)

/-- ITS FALSE NEIGHBOUR: 'it returns false'. Refute it at one input. -/
def replicaOnceWrong : ChangeSpec := { name := "replicaOnce", fn := fun _ => fun
  | [d1, d2] => { results := [.lit (.bool false)], args := [d1, d2] }
  | _ => none }
def ReplicaOnceWrongFalsely : Prop := replicaOnceRow.holds Try.pinned (OpenSpec.ofChange replicaOnceWrong)

/-- 'chargenetlaw38.ReplicaValid': WHATEVER THE INPUT: true; the input reads as it did. -/
def replicaValidSpec : ChangeSpec := { name := "replicaValid", fn := fun _ => fun
  | [d] => { results := [.lit (.bool true)], args := [d] }
  | _ => none }
def replicaValidRow : OpenClaim := { program := "ytiapeenfggjpnaa", sum := "9fa45e8a0221d6bf7a86325c40c7bc4b1333cef63d7db61a60a5ccdc8001cb8a", func := "chargenet/chargenetlaw38.ReplicaValid", spec := "replicaValid", unfollowed := true, recurses := true, apart := false }
def ReplicaValidSaid : Prop := replicaValidRow.holds Try.pinned (OpenSpec.ofChange replicaValidSpec)

/-- ITS FALSE NEIGHBOUR: 'it returns false'. Refute it at one input. -/
def replicaValidWrong : ChangeSpec := { name := "replicaValid", fn := fun _ => fun
  | [d] => { results := [.lit (.bool false)], args := [d] }
  | _ => none }
def ReplicaValidWrongFalsely : Prop := replicaValidRow.holds Try.pinned (OpenSpec.ofChange replicaValidWrong)

/-- 'chargenetlaw38.ReplicaPlay': WHATEVER THE INPUT: true; the input reads as it did. -/
def replicaPlaySpec : ChangeSpec := { name := "replicaPlay", fn := fun _ => fun
  | [d1, d2] => { results := [.lit (.bool true)], args := [d1, d2] }
  | _ => none }
def replicaPlayRow : OpenClaim := { program := "ytiapeenfggjpnaa", sum := "9fa45e8a0221d6bf7a86325c40c7bc4b1333cef63d7db61a60a5ccdc8001cb8a", func := "chargenet/chargenetlaw38.ReplicaPlay", spec := "replicaPlay", unfollowed := true, recurses := true, apart := false }
def ReplicaPlaySaid : Prop := replicaPlayRow.holds Try.pinned (OpenSpec.ofChange replicaPlaySpec)

/-- ITS FALSE NEIGHBOUR: 'it returns false'. Refute it at one input. -/
def replicaPlayWrong : ChangeSpec := { name := "replicaPlay", fn := fun _ => fun
  | [d1, d2] => { results := [.lit (.bool false)], args := [d1, d2] }
  | _ => none }
def ReplicaPlayWrongFalsely : Prop := replicaPlayRow.holds Try.pinned (OpenSpec.ofChange replicaPlayWrong)

/-- 'chargenettop.EntriesStay': WHATEVER THE INPUT: true; the input reads as it did. -/
def entriesStaySpec : ChangeSpec := { name := "entriesStay", fn := fun _ => fun
  | [d1, d2] => { results := [.lit (.bool true)], args := [d1, d2] }
  | _ => none }
def entriesStayRow : OpenClaim := { program := "ytiapeenfggjpnaa", sum := "9fa45e8a0221d6bf7a86325c40c7bc4b1333cef63d7db61a60a5ccdc8001cb8a", func := "chargenet/chargenettop.EntriesStay", spec := "entriesStay", unfollowed := true, recurses := true, apart := false }
def EntriesStaySaid : Prop := entriesStayRow.holds Try.pinned (OpenSpec.ofChange entriesStaySpec)

/-- ITS FALSE NEIGHBOUR: 'it returns false'. Refute it at one input. -/
def entriesStayWrong : ChangeSpec := { name := "entriesStay", fn := fun _ => fun
  | [d1, d2] => { results := [.lit (.bool false)], args := [d1, d2] }
  | _ => none }
def EntriesStayWrongFalsely : Prop := entriesStayRow.holds Try.pinned (OpenSpec.ofChange entriesStayWrong)

/- THE SECOND FORM. 'bulk': how many values and letters a reading holds, each counted each time it is reached (what is shared counts as often as it is met; a slice's spare places count too). A statement '..UptoSaid' is the law's where the arguments, and the package variables that the reading takes, are together of bulk at most 1048576: NARROWER than '..Said'. Prove '..Said' where nothing that the law and all that it calls make is longer than what came in: it says more and counts as full. Else prove '..UptoSaid'. A law counts once. -/
mutual
def uptoBulk {H : Type} : DataW H → Nat
  | .lit (.string bytes) => bytes.length + 1
  | .lit _ => 1
  | .nil => 1
  | .ptr d => uptoBulk d + 1
  | .slice elems spare => uptoBulkAll elems + uptoBulkAll spare + 1
  | .agg parts => uptoBulkAll parts + 1
  | .iface _ d => uptoBulk d + 1
  | .map entries => uptoBulkEntries entries + 1
  | .held _ => 1
def uptoBulkAll {H : Type} : List (DataW H) → Nat
  | [] => 0
  | d :: r => uptoBulk d + uptoBulkAll r
def uptoBulkEntries {H : Type} : List (Lit × DataW H) → Nat
  | [] => 0
  | x :: r => uptoBulkEntry x + uptoBulkEntries r
def uptoBulkEntry {H : Type} : Lit × DataW H → Nat
  | (.string bytes, d) => bytes.length + uptoBulk d + 1
  | (_, d) => uptoBulk d + 1
 end
def uptoSmall : (H : Type) → List (DataW H) → Bool := fun _ ds => decide (uptoBulkAll ds ≤ 1048576)
def OpenSpec.upto (s : _root_.Go.ChangeSpec) : _root_.Go.OpenSpec := { _root_.Go.OpenSpec.ofChange s with cond := some uptoSmall }

/-- 'chargenetlaw38.ReplicaCall', WHERE WHAT IT READS IS OF BULK AT MOST 1048576: true; the input reads as it did. -/
def replicaCallUptoRow : OpenClaim := { program := "ytiapeenfggjpnaa", sum := "9fa45e8a0221d6bf7a86325c40c7bc4b1333cef63d7db61a60a5ccdc8001cb8a", func := "chargenet/chargenetlaw38.ReplicaCall", spec := "replicaCall", unfollowed := true, recurses := true, apart := false, narrowed := true }
def ReplicaCallUptoSaid : Prop := replicaCallUptoRow.holds Try.pinned (OpenSpec.upto replicaCallSpec)

/-- 'chargenetlaw38.ReplicaKeeps', WHERE WHAT IT READS IS OF BULK AT MOST 1048576: true; the input reads as it did. -/
def replicaKeepsUptoRow : OpenClaim := { program := "ytiapeenfggjpnaa", sum := "9fa45e8a0221d6bf7a86325c40c7bc4b1333cef63d7db61a60a5ccdc8001cb8a", func := "chargenet/chargenetlaw38.ReplicaKeeps", spec := "replicaKeeps", unfollowed := true, recurses := true, apart := false, narrowed := true }
def ReplicaKeepsUptoSaid : Prop := replicaKeepsUptoRow.holds Try.pinned (OpenSpec.upto replicaKeepsSpec)

/-- 'chargenetlaw38.ReplicaServes', WHERE WHAT IT READS IS OF BULK AT MOST 1048576: true; the input reads as it did. -/
def replicaServesUptoRow : OpenClaim := { program := "ytiapeenfggjpnaa", sum := "9fa45e8a0221d6bf7a86325c40c7bc4b1333cef63d7db61a60a5ccdc8001cb8a", func := "chargenet/chargenetlaw38.ReplicaServes", spec := "replicaServes", unfollowed := true, recurses := true, apart := false, narrowed := true }
def ReplicaServesUptoSaid : Prop := replicaServesUptoRow.holds Try.pinned (OpenSpec.upto replicaServesSpec)

/-- 'chargenetlaw38.ReplicaOnce', WHERE WHAT IT READS IS OF BULK AT MOST 1048576: true; the input reads as it did. -/
def replicaOnceUptoRow : OpenClaim := { program := "ytiapeenfggjpnaa", sum := "9fa45e8a0221d6bf7a86325c40c7bc4b1333cef63d7db61a60a5ccdc8001cb8a", func := "chargenet/chargenetlaw38.ReplicaOnce", spec := "replicaOnce", unfollowed := true, recurses := true, apart := false, narrowed := true }
def ReplicaOnceUptoSaid : Prop := replicaOnceUptoRow.holds Try.pinned (OpenSpec.upto replicaOnceSpec)

/-- 'chargenetlaw38.ReplicaValid', WHERE WHAT IT READS IS OF BULK AT MOST 1048576: true; the input reads as it did. -/
def replicaValidUptoRow : OpenClaim := { program := "ytiapeenfggjpnaa", sum := "9fa45e8a0221d6bf7a86325c40c7bc4b1333cef63d7db61a60a5ccdc8001cb8a", func := "chargenet/chargenetlaw38.ReplicaValid", spec := "replicaValid", unfollowed := true, recurses := true, apart := false, narrowed := true }
def ReplicaValidUptoSaid : Prop := replicaValidUptoRow.holds Try.pinned (OpenSpec.upto replicaValidSpec)

/-- 'chargenetlaw38.ReplicaPlay', WHERE WHAT IT READS IS OF BULK AT MOST 1048576: true; the input reads as it did. -/
def replicaPlayUptoRow : OpenClaim := { program := "ytiapeenfggjpnaa", sum := "9fa45e8a0221d6bf7a86325c40c7bc4b1333cef63d7db61a60a5ccdc8001cb8a", func := "chargenet/chargenetlaw38.ReplicaPlay", spec := "replicaPlay", unfollowed := true, recurses := true, apart := false, narrowed := true }
def ReplicaPlayUptoSaid : Prop := replicaPlayUptoRow.holds Try.pinned (OpenSpec.upto replicaPlaySpec)

/-- 'chargenettop.EntriesStay', WHERE WHAT IT READS IS OF BULK AT MOST 1048576: true; the input reads as it did. -/
def entriesStayUptoRow : OpenClaim := { program := "ytiapeenfggjpnaa", sum := "9fa45e8a0221d6bf7a86325c40c7bc4b1333cef63d7db61a60a5ccdc8001cb8a", func := "chargenet/chargenettop.EntriesStay", spec := "entriesStay", unfollowed := true, recurses := true, apart := false, narrowed := true }
def EntriesStayUptoSaid : Prop := entriesStayUptoRow.holds Try.pinned (OpenSpec.upto entriesStaySpec)

end Rows
end Go.Proofs.Ytiapeenfggjpnaa
