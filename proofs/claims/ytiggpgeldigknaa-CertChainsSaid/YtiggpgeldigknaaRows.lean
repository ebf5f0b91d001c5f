/-
  No cell of these rows narrows 'for every input' (looked for: loops, veiled, ifaces, maps, wideKeys, modest, calm, conditions, laid).
  DERIVED. THE GIVEN ROWS OF THIS SEAT. 17 by the template 'for every input the law returns true; each argument reads behind the call as it read before'; 0 by the template 'total and deterministic' (their statements: YtiggpgeldigknaaTotals.lean).
  GIVEN WITH THE SEED: the statements are not yours to turn. If you find one false, say at which input.
  Laid BY PROGRAM, IN A SANDBOX (cutbox-rows.mjs): the forced cells as the released guide's own fill.sh prints them over the translation c8a93bf78d4e89e9… (all of the seat's roots in one cut). By AI agents, Wed Nov 11 2026. No macro, syntax, notation, axiom, sorry.
-/
import Derived.Test.YtiggpgeldigknaaChecked
import GoSem.Claim
import GoSem.ClaimJoined
import GoSem.ClaimMapViews
import Derived.JoinedTies
import Derived.KernelRfl
namespace Go.Proofs.Ytiggpgeldigknaa
/- THE CELL 'sum', in the pinned program and in every row, IS THE sha256 OF THE DUMP (.gsa) THAT YtiggpgeldigknaaProg.lean LOADS. Nothing in Lean hashes anything: it is a label: what it is worth is what the hold of that sum in a sandbox is worth. -/
noncomputable def Try.pinned : Pinned := { name := "ytiggpgeldigknaa", sum := "c8a93bf78d4e89e92816cff167112f0a89fe04747772c1999659ca6f95875339", checked := Try.checked }
namespace Rows
def none {H : Type} : Left H := { results := [], args := [] }

/-- 'chargenetlaw24.AuthCentrals': WHATEVER THE INPUT: true; the input reads as it did. -/
def authCentralsSpec : ChangeSpec := { name := "authCentrals", fn := fun _ => fun
  | [d1, d2] => { results := [.lit (.bool true)], args := [d1, d2] }
  | _ => none }
def authCentralsRow : OpenClaim := { program := "ytiggpgeldigknaa", sum := "c8a93bf78d4e89e92816cff167112f0a89fe04747772c1999659ca6f95875339", func := "chargenet/chargenetlaw24.AuthCentrals", spec := "authCentrals", unfollowed := true, recurses := true, apart := false }
def AuthCentralsSaid : Prop := authCentralsRow.holds Try.pinned (OpenSpec.ofChange authCentralsSpec)

/-- ITS FALSE NEIGHBOUR: 'it returns false'. Refute it at one input. -/
def authCentralsWrong : ChangeSpec := { name := "authCentrals", fn := fun _ => fun
  | [d1, d2] => { results := [.lit (.bool false)], args := [d1, d2] }
  | _ => none }
def AuthCentralsWrongFalsely : Prop := authCentralsRow.holds Try.pinned (OpenSpec.ofChange authCentralsWrong)

/-- 'chargenetlaw24.AuthEnds': WHATEVER THE INPUT: true; the input reads as it did. -/
def authEndsSpec : ChangeSpec := { name := "authEnds", fn := fun _ => fun
  | [d1, d2, d3] => { results := [.lit (.bool true)], args := [d1, d2, d3] }
  | _ => none }
def authEndsRow : OpenClaim := { program := "ytiggpgeldigknaa", sum := "c8a93bf78d4e89e92816cff167112f0a89fe04747772c1999659ca6f95875339", func := "chargenet/chargenetlaw24.AuthEnds", spec := "authEnds", unfollowed := true, recurses := true, apart := false }
def AuthEndsSaid : Prop := authEndsRow.holds Try.pinned (OpenSpec.ofChange authEndsSpec)

/-- ITS FALSE NEIGHBOUR: 'it returns false'. Refute it at one input. -/
def authEndsWrong : ChangeSpec := { name := "authEnds", fn := fun _ => fun
  | [d1, d2, d3] => { results := [.lit (.bool false)], args := [d1, d2, d3] }
  | _ => none }
def AuthEndsWrongFalsely : Prop := authEndsRow.holds Try.pinned (OpenSpec.ofChange authEndsWrong)

/-- 'chargenetlaw24.AuthLocals': WHATEVER THE INPUT: true; the input reads as it did. -/
def authLocalsSpec : ChangeSpec := { name := "authLocals", fn := fun _ => fun
  | [d] => { results := [.lit (.bool true)], args := [d] }
  | _ => none }
def authLocalsRow : OpenClaim := { program := "ytiggpgeldigknaa", sum := "c8a93bf78d4e89e92816cff167112f0a89fe04747772c1999659ca6f95875339", func := "chargenet/chargenetlaw24.AuthLocals", spec := "authLocals", unfollowed := true, recurses := true, apart := false }
def AuthLocalsSaid : Prop := authLocalsRow.holds Try.pinned (OpenSpec.ofChange authLocalsSpec)

/-- ITS FALSE NEIGHBOUR: 'it returns false'. Refute it at one input. -/
def authLocalsWrong : ChangeSpec := { name := "authLocals", fn := fun _ => fun
  | [d] => { results := [.lit (.bool false)], args := [d] }
  | _ => none }
def AuthLocalsWrongFalsely : Prop := authLocalsRow.holds Try.pinned (OpenSpec.ofChange authLocalsWrong)

/-- 'chargenetlaw24.AuthDenies': WHATEVER THE INPUT: true; the input reads as it did. -/
def authDeniesSpec : ChangeSpec := { name := "authDenies", fn := fun _ => fun
  | [d] => { results := [.lit (.bool true)], args := [d] }
  | _ => none }
def authDeniesRow : OpenClaim := { program := "ytiggpgeldigknaa", sum := "c8a93bf78d4e89e92816cff167112f0a89fe04747772c1999659ca6f95875339", func := "chargenet/chargenetlaw24.AuthDenies", spec := "authDenies", unfollowed := true, recurses := true, apart := false }
def AuthDeniesSaid : Prop := authDeniesRow.holds Try.pinned (OpenSpec.ofChange authDeniesSpec)

/-- ITS FALSE NEIGHBOUR: 'it returns false'. Refute it at one input. -/
def authDeniesWrong : ChangeSpec := { name := "authDenies", fn := fun _ => fun
  | [d] => { results := [.lit (.bool false)], args := [d] }
  | _ => none }
def AuthDeniesWrongFalsely : Prop := authDeniesRow.holds Try.pinned (OpenSpec.ofChange authDeniesWrong)

/-- 'chargenetlaw24.AuthRemembers': WHATEVER THE INPUT: true; the input reads as it did. -/
def authRemembersSpec : ChangeSpec := { name := "authRemembers", fn := fun _ => fun
  | [d1, d2, d3] => { results := [.lit (.bool true)], args := [d1, d2, d3] }
  | _ => none }
def authRemembersRow : OpenClaim := { program := "ytiggpgeldigknaa", sum := "c8a93bf78d4e89e92816cff167112f0a89fe04747772c1999659ca6f95875339", func := "chargenet/chargenetlaw24.AuthRemembers", spec := "authRemembers", unfollowed := true, recurses := true, apart := false }
def AuthRemembersSaid : Prop := authRemembersRow.holds Try.pinned (OpenSpec.ofChange authRemembersSpec)

/-- ITS FALSE NEIGHBOUR: 'it returns false'. Refute it at one input. -/
def authRemembersWrong : ChangeSpec := { name := "authRemembers", fn := fun _ => fun
  | [d1, d2, d3] => { results := [.lit (.bool false)], args := [d1, d2, d3] }
  | _ => none }
def AuthRemembersWrongFalsely : Prop := authRemembersRow.holds Try.pinned (OpenSpec.ofChange authRemembersWrong)

/-- 'chargenetlaw24.AuthFinds': WHATEVER THE INPUT: true; the input reads as it did. -/
def authFindsSpec : ChangeSpec := { name := "authFinds", fn := fun _ => fun
  | [d1, d2] => { results := [.lit (.bool true)], args := [d1, d2] }
  | _ => none }
def authFindsRow : OpenClaim := { program := "ytiggpgeldigknaa", sum := "c8a93bf78d4e89e92816cff167112f0a89fe04747772c1999659ca6f95875339", func := "chargenet/chargenetlaw24.AuthFinds", spec := "authFinds", unfollowed := true, recurses := true, apart := false }
def AuthFindsSaid : Prop := authFindsRow.holds Try.pinned (OpenSpec.ofChange authFindsSpec)

/-- ITS FALSE NEIGHBOUR: 'it returns false'. Refute it at one input. -/
def authFindsWrong : ChangeSpec := { name := "authFinds", fn := fun _ => fun
  | [d1, d2] => { results := [.lit (.bool false)], args := [d1, d2] }
  | _ => none }
def AuthFindsWrongFalsely : Prop := authFindsRow.holds Try.pinned (OpenSpec.ofChange authFindsWrong)

/-- 'chargenettop.CertsCharge': WHATEVER THE INPUT: true; the input reads as it did. -/
def certsChargeSpec : ChangeSpec := { name := "certsCharge", fn := fun _ => fun
  | [d1, d2, d3, d4, d5] => { results := [.lit (.bool true)], args := [d1, d2, d3, d4, d5] }
  | _ => none }
def certsChargeRow : OpenClaim := { program := "ytiggpgeldigknaa", sum := "c8a93bf78d4e89e92816cff167112f0a89fe04747772c1999659ca6f95875339", func := "chargenet/chargenettop.CertsCharge", spec := "certsCharge", unfollowed := true, recurses := true, apart := false }
def CertsChargeSaid : Prop := certsChargeRow.holds Try.pinned (OpenSpec.ofChange certsChargeSpec)

/-- ITS FALSE NEIGHBOUR: 'it returns false'. Refute it at one input. -/
def certsChargeWrong : ChangeSpec := { name := "certsCharge", fn := fun _ => fun
  | [d1, d2, d3, d4, d5] => { results := [.lit (.bool false)], args := [d1, d2, d3, d4, d5] }
  | _ => none }
def CertsChargeWrongFalsely : Prop := certsChargeRow.holds Try.pinned (OpenSpec.ofChange certsChargeWrong)

/-- 'chargenetlaw40.LedgerAppends': WHATEVER THE INPUT: true; the input reads as it did. -/
def ledgerAppendsSpec : ChangeSpec := { name := "ledgerAppends", fn := fun _ => fun
  | [d1, d2] => { results := [.lit (.bool true)], args := [d1, d2] }
  | _ => none }
def ledgerAppendsRow : OpenClaim := { program := "ytiggpgeldigknaa", sum := "c8a93bf78d4e89e92816cff167112f0a89fe04747772c1999659ca6f95875339", func := "chargenet/chargenetlaw40.LedgerAppends", spec := "ledgerAppends", unfollowed := true, recurses := true, apart := false }
def LedgerAppendsSaid : Prop := ledgerAppendsRow.holds Try.pinned (OpenSpec.ofChange ledgerAppendsSpec)

/-- ITS FALSE NEIGHBOUR: 'it returns false'. Refute it at one input. -/
def ledgerAppendsWrong : ChangeSpec := { name := "ledgerAppends", fn := fun _ => fun
  | [d1, d2] => { results := [.lit (.bool false)], args := [d1, d2] }
  | _ => none }
def LedgerAppendsWrongFalsely : Prop := ledgerAppendsRow.holds Try.pinned (OpenSpec.ofChange ledgerAppendsWrong)

/-- 'chargenetlaw40.LedgerVerifies': WHATEVER THE INPUT: true; the input reads as it did. -/
def ledgerVerifiesSpec : ChangeSpec := { name := "ledgerVerifies", fn := fun _ => fun
  | [d] => { results := [.lit (.bool true)], args := [d] }
  | _ => none }
def ledgerVerifiesRow : OpenClaim := { program := "ytiggpgeldigknaa", sum := "c8a93bf78d4e89e92816cff167112f0a89fe04747772c1999659ca6f95875339", func := "chargenet/chargenetlaw40.LedgerVerifies", spec := "ledgerVerifies", unfollowed := true, recurses := true, apart := false }
def LedgerVerifiesSaid : Prop := ledgerVerifiesRow.holds Try.pinned (OpenSpec.ofChange ledgerVerifiesSpec)

/-- ITS FALSE NEIGHBOUR: 'it returns false'. Refute it at one input. -/
def ledgerVerifiesWrong : ChangeSpec := { name := "ledgerVerifies", fn := fun _ => fun
  | [d] => { results := [.lit (.bool false)], args := [d] }
  | _ => none }
def LedgerVerifiesWrongFalsely : Prop := ledgerVerifiesRow.holds Try.pinned (OpenSpec.ofChange ledgerVerifiesWrong)

/-- 'chargenetlaw40.LedgerGrows': WHATEVER THE INPUT: true; the input reads as it did. -/
def ledgerGrowsSpec : ChangeSpec := { name := "ledgerGrows", fn := fun _ => fun
  | [d1, d2] => { results := [.lit (.bool true)], args := [d1, d2] }
  | _ => none }
def ledgerGrowsRow : OpenClaim := { program := "ytiggpgeldigknaa", sum := "c8a93bf78d4e89e92816cff167112f0a89fe04747772c1999659ca6f95875339", func := "chargenet/chargenetlaw40.LedgerGrows", spec := "ledgerGrows", unfollowed := true, recurses := true, apart := false }
def LedgerGrowsSaid : Prop := ledgerGrowsRow.holds Try.pinned (OpenSpec.ofChange ledgerGrowsSpec)

/-- ITS FALSE NEIGHBOUR: 'it returns false'. Refute it at one input. -/
def ledgerGrowsWrong : ChangeSpec := { name := "ledgerGrows", fn := fun _ => fun
  | [d1, d2] => { results := [.lit (.bool false)], args := [d1, d2] }
  | _ => none }
def LedgerGrowsWrongFalsely : Prop := ledgerGrowsRow.holds Try.pinned (OpenSpec.ofChange ledgerGrowsWrong)

/-- 'chargenetlaw40.LedgerDetects': WHATEVER THE INPUT: true; the input reads as it did. -/
def ledgerDetectsSpec : ChangeSpec := { name := "ledgerDetects", fn := fun _ => fun
  | [d1, d2, d3, d4] => { results := [.lit (.bool true)], args := [d1, d2, d3, d4] }
  | _ => none }
def ledgerDetectsRow : OpenClaim := { program := "ytiggpgeldigknaa", sum := "c8a93bf78d4e89e92816cff167112f0a89fe04747772c1999659ca6f95875339", func := "chargenet/chargenetlaw40.LedgerDetects", spec := "ledgerDetects", unfollowed := true, recurses := true, apart := false }
def LedgerDetectsSaid : Prop := ledgerDetectsRow.holds Try.pinned (OpenSpec.ofChange ledgerDetectsSpec)

/-- ITS FALSE NEIGHBOUR: 'it returns false'. Refute it at one input. -/
def ledgerDetectsWrong : ChangeSpec := { name := "ledgerDetects", fn := fun _ => fun
  | [d1, d2, d3, d4] => { results := [.lit (.bool false)], args := [d1, d2, d3, d4] }
  | _ => none }
def LedgerDetectsWrongFalsely : Prop := ledgerDetectsRow.holds Try.pinned (OpenSpec.ofChange ledgerDetectsWrong)

/-- 'chargenetlaw23.CertValids': WHATEVER THE INPUT: true; the input reads as it did. -/
def certValidsSpec : ChangeSpec := { name := "certValids", fn := fun _ => fun
  | [d] => { results := [.lit (.bool true)], args := [d] }
  | _ => none }
def certValidsRow : OpenClaim := { program := "ytiggpgeldigknaa", sum := "c8a93bf78d4e89e92816cff167112f0a89fe04747772c1999659ca6f95875339", func := "chargenet/chargenetlaw23.CertValids", spec := "certValids", apart := false }
def CertValidsSaid : Prop := certValidsRow.holds Try.pinned (OpenSpec.ofChange certValidsSpec)

/-- ITS FALSE NEIGHBOUR: 'it returns false'. Refute it at one input. -/
def certValidsWrong : ChangeSpec := { name := "certValids", fn := fun _ => fun
  | [d] => { results := [.lit (.bool false)], args := [d] }
  | _ => none }
def CertValidsWrongFalsely : Prop := certValidsRow.holds Try.pinned (OpenSpec.ofChange certValidsWrong)

/-- 'chargenetlaw23.CertRoots': WHATEVER THE INPUT: true; the input reads as it did. -/
def certRootsSpec : ChangeSpec := { name := "certRoots", fn := fun _ => fun
  | [d] => { results := [.lit (.bool true)], args := [d] }
  | _ => none }
def certRootsRow : OpenClaim := { program := "ytiggpgeldigknaa", sum := "c8a93bf78d4e89e92816cff167112f0a89fe04747772c1999659ca6f95875339", func := "chargenet/chargenetlaw23.CertRoots", spec := "certRoots", apart := false }
def CertRootsSaid : Prop := certRootsRow.holds Try.pinned (OpenSpec.ofChange certRootsSpec)

/-- ITS FALSE NEIGHBOUR: 'it returns false'. Refute it at one input. -/
def certRootsWrong : ChangeSpec := { name := "certRoots", fn := fun _ => fun
  | [d] => { results := [.lit (.bool false)], args := [d] }
  | _ => none }
def CertRootsWrongFalsely : Prop := certRootsRow.holds Try.pinned (OpenSpec.ofChange certRootsWrong)

/-- 'chargenetlaw23.CertIssues': WHATEVER THE INPUT: true; the input reads as it did. -/
def certIssuesSpec : ChangeSpec := { name := "certIssues", fn := fun _ => fun
  | [d1, d2] => { results := [.lit (.bool true)], args := [d1, d2] }
  | _ => none }
def certIssuesRow : OpenClaim := { program := "ytiggpgeldigknaa", sum := "c8a93bf78d4e89e92816cff167112f0a89fe04747772c1999659ca6f95875339", func := "chargenet/chargenetlaw23.CertIssues", spec := "certIssues", apart := false }
def CertIssuesSaid : Prop := certIssuesRow.holds Try.pinned (OpenSpec.ofChange certIssuesSpec)

/-- ITS FALSE NEIGHBOUR: 'it returns false'. Refute it at one input. -/
def certIssuesWrong : ChangeSpec := { name := "certIssues", fn := fun _ => fun
  | [d1, d2] => { results := [.lit (.bool false)], args := [d1, d2] }
  | _ => none }
def CertIssuesWrongFalsely : Prop := certIssuesRow.holds Try.pinned (OpenSpec.ofChange certIssuesWrong)

/-- 'chargenetlaw23.CertVerifies': WHATEVER THE INPUT: true; the input reads as it did. -/
def certVerifiesSpec : ChangeSpec := { name := "certVerifies", fn := fun _ => fun
  | [d1, d2, d3] => { results := [.lit (.bool true)], args := [d1, d2, d3] }
  | _ => none }
def certVerifiesRow : OpenClaim := { program := "ytiggpgeldigknaa", sum := "c8a93bf78d4e89e92816cff167112f0a89fe04747772c1999659ca6f95875339", func := "chargenet/chargenetlaw23.CertVerifies", spec := "certVerifies", apart := false }
def CertVerifiesSaid : Prop := certVerifiesRow.holds Try.pinned (OpenSpec.ofChange certVerifiesSpec)

/-- ITS FALSE NEIGHBOUR: 'it returns false'. Refute it at one input. -/
def certVerifiesWrong : ChangeSpec := { name := "certVerifies", fn := fun _ => fun
  | [d1, d2, d3] => { results := [.lit (.bool false)], args := [d1, d2, d3] }
  | _ => none }
def CertVerifiesWrongFalsely : Prop := certVerifiesRow.holds Try.pinned (OpenSpec.ofChange certVerifiesWrong)

/-- 'chargenetlaw23.CertChains': WHATEVER THE INPUT: true; the input reads as it did. -/
def certChainsSpec : ChangeSpec := { name := "certChains", fn := fun _ => fun
  | [d] => { results := [.lit (.bool true)], args := [d] }
  | _ => none }
def certChainsRow : OpenClaim := { program := "ytiggpgeldigknaa", sum := "c8a93bf78d4e89e92816cff167112f0a89fe04747772c1999659ca6f95875339", func := "chargenet/chargenetlaw23.CertChains", spec := "certChains", apart := false }
def CertChainsSaid : Prop := certChainsRow.holds Try.pinned (OpenSpec.ofChange certChainsSpec)

/-- ITS FALSE NEIGHBOUR: 'it returns false'. Refute it at one input. -/
def certChainsWrong : ChangeSpec := { name := "certChains", fn := fun _ => fun
  | [d] => { results := [.lit (.bool false)], args := [d] }
  | _ => none }
def CertChainsWrongFalsely : Prop := certChainsRow.holds Try.pinned (OpenSpec.ofChange certChainsWrong)

/-- 'chargenetlaw23.CertSpoilt': WHATEVER THE INPUT: true; the input reads as it did. -/
def certSpoiltSpec : ChangeSpec := { name := "certSpoilt", fn := fun _ => fun
  | [d1, d2] => { results := [.lit (.bool true)], args := [d1, d2] }
  | _ => none }
def certSpoiltRow : OpenClaim := { program := "ytiggpgeldigknaa", sum := "c8a93bf78d4e89e92816cff167112f0a89fe04747772c1999659ca6f95875339", func := "chargenet/chargenetlaw23.CertSpoilt", spec := "certSpoilt", apart := false }
def CertSpoiltSaid : Prop := certSpoiltRow.holds Try.pinned (OpenSpec.ofChange certSpoiltSpec)

/-- ITS FALSE NEIGHBOUR: 'it returns false'. Refute it at one input. -/
def certSpoiltWrong : ChangeSpec := { name := "certSpoilt", fn := fun _ => fun
  | [d1, d2] => { results := [.lit (.bool false)], args := [d1, d2] }
  | _ => none }
def CertSpoiltWrongFalsely : Prop := certSpoiltRow.holds Try.pinned (OpenSpec.ofChange certSpoiltWrong)

/- THE SECOND FORM. 'bulk': how many values and letters a reading holds, each counted each time it is reached (what is shared counts as often as it is met; a slice's spare places count too). A statement '..UptoSaid' is the law's where the arguments, and the package variables that the reading takes, are together of bulk at most 1048576: NARROWER than '..Said'. Prove '..Said' where nothing that the law and all that it calls make is longer than what came in: it says more and counts as full. Else prove '..UptoSaid'. A law counts once. -/
mutual
def uptoBulk {H : Type} : DataW H → Nat
  | .lit (.string bytes) => bytes.length + 1
  | .lit _ => 1
  | .nil => 1
  | .ptr d => uptoBulk d + 1
  | .slice elems spare => uptoBulkAll elems + uptoBulkAll spare + 1
  | .agg parts => uptoBulkAll parts + 1
  | .iface _ d => uptoBulk d + 1
  | .map entries => uptoBulkEntries entries + 1
  | .held _ => 1
def uptoBulkAll {H : Type} : List (DataW H) → Nat
  | [] => 0
  | d :: r => uptoBulk d + uptoBulkAll r
def uptoBulkEntries {H : Type} : List (Lit × DataW H) → Nat
  | [] => 0
  | x :: r => uptoBulkEntry x + uptoBulkEntries r
def uptoBulkEntry {H : Type} : Lit × DataW H → Nat
  | (.string bytes, d) => bytes.length + uptoBulk d + 1
  | (_, d) => uptoBulk d + 1
 end
def uptoSmall : (H : Type) → List (DataW H) → Bool := fun _ ds => decide (uptoBulkAll ds ≤ 1048576)
def OpenSpec.upto (s : _root_.Go.ChangeSpec) : _root_.Go.OpenSpec := { _root_.Go.OpenSpec.ofChange s with cond := some uptoSmall }

/-- 'chargenetlaw24.AuthCentrals', WHERE WHAT IT READS IS OF BULK AT MOST 1048576: true; the input reads as it did. -/
def authCentralsUptoRow : OpenClaim := { program := "ytiggpgeldigknaa", sum := "c8a93bf78d4e89e92816cff167112f0a89fe04747772c1999659ca6f95875339", func := "chargenet/chargenetlaw24.AuthCentrals", spec := "authCentrals", unfollowed := true, recurses := true, apart := false, narrowed := true }
def AuthCentralsUptoSaid : Prop := authCentralsUptoRow.holds Try.pinned (OpenSpec.upto authCentralsSpec)

/-- 'chargenetlaw24.AuthEnds', WHERE WHAT IT READS IS OF BULK AT MOST 1048576: true; the input reads as it did. -/
def authEndsUptoRow : OpenClaim := { program := "ytiggpgeldigknaa", sum := "c8a93bf78d4e89e92816cff167112f0a89fe04747772c1999659ca6f95875339", func := "chargenet/chargenetlaw24.AuthEnds", spec := "authEnds", unfollowed := true, recurses := true, apart := false, narrowed := true }
def AuthEndsUptoSaid : Prop := authEndsUptoRow.holds Try.pinned (OpenSpec.upto authEndsSpec)

/-- 'chargenetlaw24.AuthLocals', WHERE WHAT IT READS IS OF BULK AT MOST 1048576: true; the input reads as it did. -/
def authLocalsUptoRow : OpenClaim := { program := "ytiggpgeldigknaa", sum := "c8a93bf78d4e89e92816cff167112f0a89fe04747772c1999659ca6f95875339", func := "chargenet/chargenetlaw24.AuthLocals", spec := "authLocals", unfollowed := true, recurses := true, apart := false, narrowed := true }
def AuthLocalsUptoSaid : Prop := authLocalsUptoRow.holds Try.pinned (OpenSpec.upto authLocalsSpec)

/-- 'chargenetlaw24.AuthDenies', WHERE WHAT IT READS IS OF BULK AT MOST 1048576: true; the input reads as it did. -/
def authDeniesUptoRow : OpenClaim := { program := "ytiggpgeldigknaa", sum := "c8a93bf78d4e89e92816cff167112f0a89fe04747772c1999659ca6f95875339", func := "chargenet/chargenetlaw24.AuthDenies", spec := "authDenies", unfollowed := true, recurses := true, apart := false, narrowed := true }
def AuthDeniesUptoSaid : Prop := authDeniesUptoRow.holds Try.pinned (OpenSpec.upto authDeniesSpec)

/-- 'chargenetlaw24.AuthRemembers', WHERE WHAT IT READS IS OF BULK AT MOST 1048576: true; the input reads as it did. -/
def authRemembersUptoRow : OpenClaim := { program := "ytiggpgeldigknaa", sum := "c8a93bf78d4e89e92816cff167112f0a89fe04747772c1999659ca6f95875339", func := "chargenet/chargenetlaw24.AuthRemembers", spec := "authRemembers", unfollowed := true, recurses := true, apart := false, narrowed := true }
def AuthRemembersUptoSaid : Prop := authRemembersUptoRow.holds Try.pinned (OpenSpec.upto authRemembersSpec)

/-- 'chargenetlaw24.AuthFinds', WHERE WHAT IT READS IS OF BULK AT MOST 1048576: true; the input reads as it did. -/
def authFindsUptoRow : OpenClaim := { program := "ytiggpgeldigknaa", sum := "c8a93bf78d4e89e92816cff167112f0a89fe04747772c1999659ca6f95875339", func := "chargenet/chargenetlaw24.AuthFinds", spec := "authFinds", unfollowed := true, recurses := true, apart := false, narrowed := true }
def AuthFindsUptoSaid : Prop := authFindsUptoRow.holds Try.pinned (OpenSpec.upto authFindsSpec)

/-- 'chargenettop.CertsCharge', WHERE WHAT IT READS IS OF BULK AT MOST 1048576: true; the input reads as it did. -/
def certsChargeUptoRow : OpenClaim := { program := "ytiggpgeldigknaa", sum := "c8a93bf78d4e89e92816cff167112f0a89fe04747772c1999659ca6f95875339", func := "chargenet/chargenettop.CertsCharge", spec := "certsCharge", unfollowed := true, recurses := true, apart := false, narrowed := true }
def CertsChargeUptoSaid : Prop := certsChargeUptoRow.holds Try.pinned (OpenSpec.upto certsChargeSpec)

/-- 'chargenetlaw40.LedgerAppends', WHERE WHAT IT READS IS OF BULK AT MOST 1048576: true; the input reads as it did. -/
def ledgerAppendsUptoRow : OpenClaim := { program := "ytiggpgeldigknaa", sum := "c8a93bf78d4e89e92816cff167112f0a89fe04747772c1999659ca6f95875339", func := "chargenet/chargenetlaw40.LedgerAppends", spec := "ledgerAppends", unfollowed := true, recurses := true, apart := false, narrowed := true }
def LedgerAppendsUptoSaid : Prop := ledgerAppendsUptoRow.holds Try.pinned (OpenSpec.upto ledgerAppendsSpec)

/-- 'chargenetlaw40.LedgerVerifies', WHERE WHAT IT READS IS OF BULK AT MOST 1048576: true; the input reads as it did. -/
def ledgerVerifiesUptoRow : OpenClaim := { program := "ytiggpgeldigknaa", sum := "c8a93bf78d4e89e92816cff167112f0a89fe04747772c1999659ca6f95875339", func := "chargenet/chargenetlaw40.LedgerVerifies", spec := "ledgerVerifies", unfollowed := true, recurses := true, apart := false, narrowed := true }
def LedgerVerifiesUptoSaid : Prop := ledgerVerifiesUptoRow.holds Try.pinned (OpenSpec.upto ledgerVerifiesSpec)

/-- 'chargenetlaw40.LedgerGrows', WHERE WHAT IT READS IS OF BULK AT MOST 1048576: true; the input reads as it did. -/
def ledgerGrowsUptoRow : OpenClaim := { program := "ytiggpgeldigknaa", sum := "c8a93bf78d4e89e92816cff167112f0a89fe04747772c1999659ca6f95875339", func := "chargenet/chargenetlaw40.LedgerGrows", spec := "ledgerGrows", unfollowed := true, recurses := true, apart := false, narrowed := true }
def LedgerGrowsUptoSaid : Prop := ledgerGrowsUptoRow.holds Try.pinned (OpenSpec.upto ledgerGrowsSpec)

/-- 'chargenetlaw40.LedgerDetects', WHERE WHAT IT READS IS OF BULK AT MOST 1048576: true; the input reads as it did. -/
def ledgerDetectsUptoRow : OpenClaim := { program := "ytiggpgeldigknaa", sum := "c8a93bf78d4e89e92816cff167112f0a89fe04747772c1999659ca6f95875339", func := "chargenet/chargenetlaw40.LedgerDetects", spec := "ledgerDetects", unfollowed := true, recurses := true, apart := false, narrowed := true }
def LedgerDetectsUptoSaid : Prop := ledgerDetectsUptoRow.holds Try.pinned (OpenSpec.upto ledgerDetectsSpec)

/-- 'chargenetlaw23.CertValids', WHERE WHAT IT READS IS OF BULK AT MOST 1048576: true; the input reads as it did. -/
def certValidsUptoRow : OpenClaim := { program := "ytiggpgeldigknaa", sum := "c8a93bf78d4e89e92816cff167112f0a89fe04747772c1999659ca6f95875339", func := "chargenet/chargenetlaw23.CertValids", spec := "certValids", apart := false, narrowed := true }
def CertValidsUptoSaid : Prop := certValidsUptoRow.holds Try.pinned (OpenSpec.upto certValidsSpec)

/-- 'chargenetlaw23.CertRoots', WHERE WHAT IT READS IS OF BULK AT MOST 1048576: true; the input reads as it did. -/
def certRootsUptoRow : OpenClaim := { program := "ytiggpgeldigknaa", sum := "c8a93bf78d4e89e92816cff167112f0a89fe04747772c1999659ca6f95875339", func := "chargenet/chargenetlaw23.CertRoots", spec := "certRoots", apart := false, narrowed := true }
def CertRootsUptoSaid : Prop := certRootsUptoRow.holds Try.pinned (OpenSpec.upto certRootsSpec)

/-- 'chargenetlaw23.CertIssues', WHERE WHAT IT READS IS OF BULK AT MOST 1048576: true; the input reads as it did. -/
def certIssuesUptoRow : OpenClaim := { program := "ytiggpgeldigknaa", sum := "c8a93bf78d4e89e92816cff167112f0a89fe04747772c1999659ca6f95875339", func := "chargenet/chargenetlaw23.CertIssues", spec := "certIssues", apart := false, narrowed := true }
def CertIssuesUptoSaid : Prop := certIssuesUptoRow.holds Try.pinned (OpenSpec.upto certIssuesSpec)

/-- 'chargenetlaw23.CertVerifies', WHERE WHAT IT READS IS OF BULK AT MOST 1048576: true; the input reads as it did. -/
def certVerifiesUptoRow : OpenClaim := { program := "ytiggpgeldigknaa", sum := "c8a93bf78d4e89e92816cff167112f0a89fe04747772c1999659ca6f95875339", func := "chargenet/chargenetlaw23.CertVerifies", spec := "certVerifies", apart := false, narrowed := true }
def CertVerifiesUptoSaid : Prop := certVerifiesUptoRow.holds Try.pinned (OpenSpec.upto certVerifiesSpec)

/-- 'chargenetlaw23.CertChains', WHERE WHAT IT READS IS OF BULK AT MOST 1048576: true; the input reads as it did. -/
def certChainsUptoRow : OpenClaim := { program := "ytiggpgeldigknaa", sum := "c8a93bf78d4e89e92816cff167112f0a89fe04747772c1999659ca6f95875339", func := "chargenet/chargenetlaw23.CertChains", spec := "certChains", apart := false, narrowed := true }
def CertChainsUptoSaid : Prop := certChainsUptoRow.holds Try.pinned (OpenSpec.upto certChainsSpec)

/-- 'chargenetlaw23.CertSpoilt', WHERE WHAT IT READS IS OF BULK AT MOST 1048576: true; the input reads as it did. -/
def certSpoiltUptoRow : OpenClaim := { program := "ytiggpgeldigknaa", sum := "c8a93bf78d4e89e92816cff167112f0a89fe04747772c1999659ca6f95875339", func := "chargenet/chargenetlaw23.CertSpoilt", spec := "certSpoilt", apart := false, narrowed := true }
def CertSpoiltUptoSaid : Prop := certSpoiltUptoRow.holds Try.pinned (OpenSpec.upto certSpoiltSpec)

end Rows
end Go.Proofs.Ytiggpgeldigknaa
