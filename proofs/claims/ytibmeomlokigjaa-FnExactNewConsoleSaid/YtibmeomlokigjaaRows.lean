/-
  No cell of these rows narrows 'for every input' (looked for: loops, veiled, ifaces, maps, wideKeys, modest, calm, conditions, laid).
  DERIVED. THE GIVEN ROWS OF THIS SEAT. 4 by the template 'for every input the law returns true; each argument reads behind the call as it read before'; 0 by the template 'total and deterministic' (their statements: YtibmeomlokigjaaTotals.lean).
  GIVEN WITH THE SEED: the statements are not yours to turn. If you find one false, say at which input.
  Laid BY PROGRAM, IN A SANDBOX (cutbox-rows.mjs): the forced cells as the released guide's own fill.sh prints them over the translation c93776192a5debff… (all of the seat's roots in one cut). By AI agents, Wed Nov 11 2026. No macro, syntax, notation, axiom, sorry.
-/
import Derived.Test.YtibmeomlokigjaaChecked
import GoSem.Claim
import GoSem.ClaimJoined
import GoSem.ClaimMapViews
import Derived.JoinedTies
import Derived.KernelRfl
namespace Go.Proofs.Ytibmeomlokigjaa
/- THE CELL 'sum', in the pinned program and in every row, IS THE sha256 OF THE DUMP (.gsa) THAT YtibmeomlokigjaaProg.lean LOADS. Nothing in Lean hashes anything: it is a label: what it is worth is what the hold of that sum in a sandbox is worth. -/
noncomputable def Try.pinned : Pinned := { name := "ytibmeomlokigjaa", sum := "c93776192a5debff888e4d16058d75b38dae8cb5d798528b0ae0ab34065113dc", checked := Try.checked }
namespace Rows
def none {H : Type} : Left H := { results := [], args := [] }

/-- 'laws.FnOutcomes': WHATEVER THE INPUT: true; the input reads as it did. -/
def fnOutcomesSpec : ChangeSpec := { name := "fnOutcomes", fn := fun _ => fun
  | [d] => { results := [.lit (.bool true)], args := [d] }
  | _ => none }
def fnOutcomesRow : OpenClaim := { program := "ytibmeomlokigjaa", sum := "c93776192a5debff888e4d16058d75b38dae8cb5d798528b0ae0ab34065113dc", func := "loop.example/g00834/laws.FnOutcomes", spec := "fnOutcomes", unfollowed := true, recurses := true, apart := false }
def FnOutcomesSaid : Prop := fnOutcomesRow.holds Try.pinned (OpenSpec.ofChange fnOutcomesSpec)

/-- ITS FALSE NEIGHBOUR: 'it returns false'. Refute it at one input. -/
def fnOutcomesWrong : ChangeSpec := { name := "fnOutcomes", fn := fun _ => fun
  | [d] => { results := [.lit (.bool false)], args := [d] }
  | _ => none }
def FnOutcomesWrongFalsely : Prop := fnOutcomesRow.holds Try.pinned (OpenSpec.ofChange fnOutcomesWrong)

/-- 'laws.FnWithdrawals': WHATEVER THE INPUT: true; the input reads as it did. -/
def fnWithdrawalsSpec : ChangeSpec := { name := "fnWithdrawals", fn := fun _ => fun
  | [d] => { results := [.lit (.bool true)], args := [d] }
  | _ => none }
def fnWithdrawalsRow : OpenClaim := { program := "ytibmeomlokigjaa", sum := "c93776192a5debff888e4d16058d75b38dae8cb5d798528b0ae0ab34065113dc", func := "loop.example/g00834/laws.FnWithdrawals", spec := "fnWithdrawals", unfollowed := true, recurses := true, apart := false }
def FnWithdrawalsSaid : Prop := fnWithdrawalsRow.holds Try.pinned (OpenSpec.ofChange fnWithdrawalsSpec)

/-- ITS FALSE NEIGHBOUR: 'it returns false'. Refute it at one input. -/
def fnWithdrawalsWrong : ChangeSpec := { name := "fnWithdrawals", fn := fun _ => fun
  | [d] => { results := [.lit (.bool false)], args := [d] }
  | _ => none }
def FnWithdrawalsWrongFalsely : Prop := fnWithdrawalsRow.holds Try.pinned (OpenSpec.ofChange fnWithdrawalsWrong)

/-- 'laws.FnPublic': WHATEVER THE INPUT: true; the input reads as it did. -/
def fnPublicSpec : ChangeSpec := { name := "fnPublic", fn := fun _ => fun
  | [d] => { results := [.lit (.bool true)], args := [d] }
  | _ => none }
def fnPublicRow : OpenClaim := { program := "ytibmeomlokigjaa", sum := "c93776192a5debff888e4d16058d75b38dae8cb5d798528b0ae0ab34065113dc", func := "loop.example/g00834/laws.FnPublic", spec := "fnPublic", inPlace := ["internal/abi.NoEscape", "internal/bytealg.MakeNoZero"], unfollowed := true, recurses := true, apart := false }
def FnPublicSaid : Prop := fnPublicRow.holds Try.pinned (OpenSpec.ofChange fnPublicSpec)

/-- ITS FALSE NEIGHBOUR: 'it returns false'. Refute it at one input. -/
def fnPublicWrong : ChangeSpec := { name := "fnPublic", fn := fun _ => fun
  | [d] => { results := [.lit (.bool false)], args := [d] }
  | _ => none }
def FnPublicWrongFalsely : Prop := fnPublicRow.holds Try.pinned (OpenSpec.ofChange fnPublicWrong)

/-- 'laws.FnExactNewConsole': WHATEVER THE INPUT: true; the input reads as it did. -/
def fnExactNewConsoleSpec : ChangeSpec := { name := "fnExactNewConsole", fn := fun _ => fun
  | [] => { results := [.lit (.bool true)], args := [] }
  | _ => none }
def fnExactNewConsoleRow : OpenClaim := { program := "ytibmeomlokigjaa", sum := "c93776192a5debff888e4d16058d75b38dae8cb5d798528b0ae0ab34065113dc", func := "loop.example/g00834/laws.FnExactNewConsole", spec := "fnExactNewConsole", apart := false }
def FnExactNewConsoleSaid : Prop := fnExactNewConsoleRow.holds Try.pinned (OpenSpec.ofChange fnExactNewConsoleSpec)

/-- ITS FALSE NEIGHBOUR: 'it returns false'. Refute it at one input. -/
def fnExactNewConsoleWrong : ChangeSpec := { name := "fnExactNewConsole", fn := fun _ => fun
  | [] => { results := [.lit (.bool false)], args := [] }
  | _ => none }
def FnExactNewConsoleWrongFalsely : Prop := fnExactNewConsoleRow.holds Try.pinned (OpenSpec.ofChange fnExactNewConsoleWrong)

/- THE SECOND FORM. 'bulk': how many values and letters a reading holds, each counted each time it is reached (what is shared counts as often as it is met; a slice's spare places count too). A statement '..UptoSaid' is the law's where the arguments, and the package variables that the reading takes, are together of bulk at most 1048576: NARROWER than '..Said'. Prove '..Said' where nothing that the law and all that it calls make is longer than what came in: it says more and counts as full. Else prove '..UptoSaid'. A law counts once. -/
mutual
def uptoBulk {H : Type} : DataW H → Nat
  | .lit (.string bytes) => bytes.length + 1
  | .lit _ => 1
  | .nil => 1
  | .ptr d => uptoBulk d + 1
  | .slice elems spare => uptoBulkAll elems + uptoBulkAll spare + 1
  | .agg parts => uptoBulkAll parts + 1
  | .iface _ d => uptoBulk d + 1
  | .map entries => uptoBulkEntries entries + 1
  | .held _ => 1
def uptoBulkAll {H : Type} : List (DataW H) → Nat
  | [] => 0
  | d :: r => uptoBulk d + uptoBulkAll r
def uptoBulkEntries {H : Type} : List (Lit × DataW H) → Nat
  | [] => 0
  | x :: r => uptoBulkEntry x + uptoBulkEntries r
def uptoBulkEntry {H : Type} : Lit × DataW H → Nat
  | (.string bytes, d) => bytes.length + uptoBulk d + 1
  | (_, d) => uptoBulk d + 1
 end
def uptoSmall : (H : Type) → List (DataW H) → Bool := fun _ ds => decide (uptoBulkAll ds ≤ 1048576)
def OpenSpec.upto (s : _root_.Go.ChangeSpec) : _root_.Go.OpenSpec := { _root_.Go.OpenSpec.ofChange s with cond := some uptoSmall }

/-- 'laws.FnOutcomes', WHERE WHAT IT READS IS OF BULK AT MOST 1048576: true; the input reads as it did. -/
def fnOutcomesUptoRow : OpenClaim := { program := "ytibmeomlokigjaa", sum := "c93776192a5debff888e4d16058d75b38dae8cb5d798528b0ae0ab34065113dc", func := "loop.example/g00834/laws.FnOutcomes", spec := "fnOutcomes", unfollowed := true, recurses := true, apart := false, narrowed := true }
def FnOutcomesUptoSaid : Prop := fnOutcomesUptoRow.holds Try.pinned (OpenSpec.upto fnOutcomesSpec)

/-- 'laws.FnWithdrawals', WHERE WHAT IT READS IS OF BULK AT MOST 1048576: true; the input reads as it did. -/
def fnWithdrawalsUptoRow : OpenClaim := { program := "ytibmeomlokigjaa", sum := "c93776192a5debff888e4d16058d75b38dae8cb5d798528b0ae0ab34065113dc", func := "loop.example/g00834/laws.FnWithdrawals", spec := "fnWithdrawals", unfollowed := true, recurses := true, apart := false, narrowed := true }
def FnWithdrawalsUptoSaid : Prop := fnWithdrawalsUptoRow.holds Try.pinned (OpenSpec.upto fnWithdrawalsSpec)

/-- 'laws.FnPublic', WHERE WHAT IT READS IS OF BULK AT MOST 1048576: true; the input reads as it did. -/
def fnPublicUptoRow : OpenClaim := { program := "ytibmeomlokigjaa", sum := "c93776192a5debff888e4d16058d75b38dae8cb5d798528b0ae0ab34065113dc", func := "loop.example/g00834/laws.FnPublic", spec := "fnPublic", inPlace := ["internal/abi.NoEscape", "internal/bytealg.MakeNoZero"], unfollowed := true, recurses := true, apart := false, narrowed := true }
def FnPublicUptoSaid : Prop := fnPublicUptoRow.holds Try.pinned (OpenSpec.upto fnPublicSpec)

/-- 'laws.FnExactNewConsole', WHERE WHAT IT READS IS OF BULK AT MOST 1048576: true; the input reads as it did. -/
def fnExactNewConsoleUptoRow : OpenClaim := { program := "ytibmeomlokigjaa", sum := "c93776192a5debff888e4d16058d75b38dae8cb5d798528b0ae0ab34065113dc", func := "loop.example/g00834/laws.FnExactNewConsole", spec := "fnExactNewConsole", apart := false, narrowed := true }
def FnExactNewConsoleUptoSaid : Prop := fnExactNewConsoleUptoRow.holds Try.pinned (OpenSpec.upto fnExactNewConsoleSpec)

end Rows
end Go.Proofs.Ytibmeomlokigjaa
