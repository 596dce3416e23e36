/-
  No cell of these rows narrows 'for every input' (looked for: loops, veiled, ifaces, maps, wideKeys, modest, calm, conditions, laid).
  DERIVED. THE GIVEN ROWS OF THIS SEAT. 3 by the template 'for every input the law returns true; each argument reads behind the call as it read before'; 0 by the template 'total and deterministic' (their statements: YtoaepoffooomnaaTotals.lean).
  GIVEN WITH THE SEED: the statements are not yours to turn. If you find one false, say at which input.
  Laid BY PROGRAM, IN A SANDBOX (cutbox-rows.mjs): the forced cells as the released guide's own fill.sh prints them over the translation 7a172bdcb082d546… (all of the seat's roots in one cut). By AI agents, Wed Nov 11 2026. No macro, syntax, notation, axiom, sorry.
-/
import Derived.Test.YtoaepoffooomnaaChecked
import GoSem.Claim
import GoSem.ClaimJoined
import GoSem.ClaimMapViews
import Derived.JoinedTies
import Derived.KernelRfl
namespace Go.Proofs.Ytoaepoffooomnaa
/- THE CELL 'sum', in the pinned program and in every row, IS THE sha256 OF THE DUMP (.gsa) THAT YtoaepoffooomnaaProg.lean LOADS. Nothing in Lean hashes anything: it is a label: what it is worth is what the hold of that sum in a sandbox is worth. -/
noncomputable def Try.pinned : Pinned := { name := "ytoaepoffooomnaa", sum := "7a172bdcb082d54695a8c342ee04acef16535f0f9d9227d47568688869b5fb4b", checked := Try.checked }
namespace Rows
def none {H : Type} : Left H := { results := [], args := [] }

/-- 'laws.FnExactWithOutcome': WHATEVER THE INPUT: true; the input reads as it did. -/
def fnExactWithOutcomeSpec : ChangeSpec := { name := "fnExactWithOutcome", fn := fun _ => fun
  | [d1, d2] => { results := [.lit (.bool true)], args := [d1, d2] }
  | _ => none }
def fnExactWithOutcomeRow : OpenClaim := { program := "ytoaepoffooomnaa", sum := "7a172bdcb082d54695a8c342ee04acef16535f0f9d9227d47568688869b5fb4b", func := "loop.example/g00834/laws.FnExactWithOutcome", spec := "fnExactWithOutcome", unfollowed := true, recurses := true, apart := false }
def FnExactWithOutcomeSaid : Prop := fnExactWithOutcomeRow.holds Try.pinned (OpenSpec.ofChange fnExactWithOutcomeSpec)

/-- ITS FALSE NEIGHBOUR: 'it returns false'. Refute it at one input. -/
def fnExactWithOutcomeWrong : ChangeSpec := { name := "fnExactWithOutcome", fn := fun _ => fun
  | [d1, d2] => { results := [.lit (.bool false)], args := [d1, d2] }
  | _ => none }
def FnExactWithOutcomeWrongFalsely : Prop := fnExactWithOutcomeRow.holds Try.pinned (OpenSpec.ofChange fnExactWithOutcomeWrong)

/-- 'laws.FnExactOrderMatters': WHATEVER THE INPUT: true; the input reads as it did. -/
def fnExactOrderMattersSpec : ChangeSpec := { name := "fnExactOrderMatters", fn := fun _ => fun
  | [d1, d2, d3] => { results := [.lit (.bool true)], args := [d1, d2, d3] }
  | _ => none }
def fnExactOrderMattersRow : OpenClaim := { program := "ytoaepoffooomnaa", sum := "7a172bdcb082d54695a8c342ee04acef16535f0f9d9227d47568688869b5fb4b", func := "loop.example/g00834/laws.FnExactOrderMatters", spec := "fnExactOrderMatters", unfollowed := true, recurses := true, apart := false }
def FnExactOrderMattersSaid : Prop := fnExactOrderMattersRow.holds Try.pinned (OpenSpec.ofChange fnExactOrderMattersSpec)

/-- ITS FALSE NEIGHBOUR: 'it returns false'. Refute it at one input. -/
def fnExactOrderMattersWrong : ChangeSpec := { name := "fnExactOrderMatters", fn := fun _ => fun
  | [d1, d2, d3] => { results := [.lit (.bool false)], args := [d1, d2, d3] }
  | _ => none }
def FnExactOrderMattersWrongFalsely : Prop := fnExactOrderMattersRow.holds Try.pinned (OpenSpec.ofChange fnExactOrderMattersWrong)

/-- 'laws.FnExactWithdraw': WHATEVER THE INPUT: true; the input reads as it did. -/
def fnExactWithdrawSpec : ChangeSpec := { name := "fnExactWithdraw", fn := fun _ => fun
  | [d1, d2, d3] => { results := [.lit (.bool true)], args := [d1, d2, d3] }
  | _ => none }
def fnExactWithdrawRow : OpenClaim := { program := "ytoaepoffooomnaa", sum := "7a172bdcb082d54695a8c342ee04acef16535f0f9d9227d47568688869b5fb4b", func := "loop.example/g00834/laws.FnExactWithdraw", spec := "fnExactWithdraw", unfollowed := true, recurses := true, apart := false }
def FnExactWithdrawSaid : Prop := fnExactWithdrawRow.holds Try.pinned (OpenSpec.ofChange fnExactWithdrawSpec)

/-- ITS FALSE NEIGHBOUR: 'it returns false'. Refute it at one input. -/
def fnExactWithdrawWrong : ChangeSpec := { name := "fnExactWithdraw", fn := fun _ => fun
  | [d1, d2, d3] => { results := [.lit (.bool false)], args := [d1, d2, d3] }
  | _ => none }
def FnExactWithdrawWrongFalsely : Prop := fnExactWithdrawRow.holds Try.pinned (OpenSpec.ofChange fnExactWithdrawWrong)

/- THE SECOND FORM. 'bulk': how many values and letters a reading holds, each counted each time it is reached (what is shared counts as often as it is met; a slice's spare places count too). A statement '..UptoSaid' is the law's where the arguments, and the package variables that the reading takes, are together of bulk at most 1048576: NARROWER than '..Said'. Prove '..Said' where nothing that the law and all that it calls make is longer than what came in: it says more and counts as full. Else prove '..UptoSaid'. A law counts once. -/
mutual
def uptoBulk {H : Type} : DataW H → Nat
  | .lit (.string bytes) => bytes.length + 1
  | .lit _ => 1
  | .nil => 1
  | .ptr d => uptoBulk d + 1
  | .slice elems spare => uptoBulkAll elems + uptoBulkAll spare + 1
  | .agg parts => uptoBulkAll parts + 1
  | .iface _ d => uptoBulk d + 1
  | .map entries => uptoBulkEntries entries + 1
  | .held _ => 1
def uptoBulkAll {H : Type} : List (DataW H) → Nat
  | [] => 0
  | d :: r => uptoBulk d + uptoBulkAll r
def uptoBulkEntries {H : Type} : List (Lit × DataW H) → Nat
  | [] => 0
  | x :: r => uptoBulkEntry x + uptoBulkEntries r
def uptoBulkEntry {H : Type} : Lit × DataW H → Nat
  | (.string bytes, d) => bytes.length + uptoBulk d + 1
  | (_, d) => uptoBulk d + 1
 end
def uptoSmall : (H : Type) → List (DataW H) → Bool := fun _ ds => decide (uptoBulkAll ds ≤ 1048576)
def OpenSpec.upto (s : _root_.Go.ChangeSpec) : _root_.Go.OpenSpec := { _root_.Go.OpenSpec.ofChange s with cond := some uptoSmall }

/-- 'laws.FnExactWithOutcome', WHERE WHAT IT READS IS OF BULK AT MOST 1048576: true; the input reads as it did. -/
def fnExactWithOutcomeUptoRow : OpenClaim := { program := "ytoaepoffooomnaa", sum := "7a172bdcb082d54695a8c342ee04acef16535f0f9d9227d47568688869b5fb4b", func := "loop.example/g00834/laws.FnExactWithOutcome", spec := "fnExactWithOutcome", unfollowed := true, recurses := true, apart := false, narrowed := true }
def FnExactWithOutcomeUptoSaid : Prop := fnExactWithOutcomeUptoRow.holds Try.pinned (OpenSpec.upto fnExactWithOutcomeSpec)

/-- 'laws.FnExactOrderMatters', WHERE WHAT IT READS IS OF BULK AT MOST 1048576: true; the input reads as it did. -/
def fnExactOrderMattersUptoRow : OpenClaim := { program := "ytoaepoffooomnaa", sum := "7a172bdcb082d54695a8c342ee04acef16535f0f9d9227d47568688869b5fb4b", func := "loop.example/g00834/laws.FnExactOrderMatters", spec := "fnExactOrderMatters", unfollowed := true, recurses := true, apart := false, narrowed := true }
def FnExactOrderMattersUptoSaid : Prop := fnExactOrderMattersUptoRow.holds Try.pinned (OpenSpec.upto fnExactOrderMattersSpec)

/-- 'laws.FnExactWithdraw', WHERE WHAT IT READS IS OF BULK AT MOST 1048576: true; the input reads as it did. -/
def fnExactWithdrawUptoRow : OpenClaim := { program := "ytoaepoffooomnaa", sum := "7a172bdcb082d54695a8c342ee04acef16535f0f9d9227d47568688869b5fb4b", func := "loop.example/g00834/laws.FnExactWithdraw", spec := "fnExactWithdraw", unfollowed := true, recurses := true, apart := false, narrowed := true }
def FnExactWithdrawUptoSaid : Prop := fnExactWithdrawUptoRow.holds Try.pinned (OpenSpec.upto fnExactWithdrawSpec)

end Rows
end Go.Proofs.Ytoaepoffooomnaa
