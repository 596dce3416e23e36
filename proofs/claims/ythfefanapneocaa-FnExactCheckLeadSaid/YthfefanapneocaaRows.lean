/-
  No cell of these rows narrows 'for every input' (looked for: loops, veiled, ifaces, maps, wideKeys, modest, calm, conditions, laid).
  DERIVED. THE GIVEN ROWS OF THIS SEAT. 7 by the template 'for every input the law returns true; each argument reads behind the call as it read before'; 0 by the template 'total and deterministic' (their statements: YthfefanapneocaaTotals.lean).
  GIVEN WITH THE SEED: the statements are not yours to turn. If you find one false, say at which input.
  Laid BY PROGRAM, IN A SANDBOX (cutbox-rows.mjs): the forced cells as the released guide's own fill.sh prints them over the translation 4dccafe76115ca90… (all of the seat's roots in one cut). By AI agents, Wed Nov 11 2026. No macro, syntax, notation, axiom, sorry.
-/
import Derived.Test.YthfefanapneocaaChecked
import GoSem.Claim
import GoSem.ClaimJoined
import GoSem.ClaimMapViews
import Derived.JoinedTies
import Derived.KernelRfl
namespace Go.Proofs.Ythfefanapneocaa
/- THE CELL 'sum', in the pinned program and in every row, IS THE sha256 OF THE DUMP (.gsa) THAT YthfefanapneocaaProg.lean LOADS. Nothing in Lean hashes anything: it is a label: what it is worth is what the hold of that sum in a sandbox is worth. -/
noncomputable def Try.pinned : Pinned := { name := "ythfefanapneocaa", sum := "4dccafe76115ca90071718d4da5874191022ef20be008ea69f4f3b0605a4727f", checked := Try.checked }
namespace Rows
def none {H : Type} : Left H := { results := [], args := [] }

/-- 'laws.FnExactDecide': WHATEVER THE INPUT: true; the input reads as it did. -/
def fnExactDecideSpec : ChangeSpec := { name := "fnExactDecide", fn := fun _ => fun
  | [d1, d2] => { results := [.lit (.bool true)], args := [d1, d2] }
  | _ => none }
def fnExactDecideRow : OpenClaim := { program := "ythfefanapneocaa", sum := "4dccafe76115ca90071718d4da5874191022ef20be008ea69f4f3b0605a4727f", func := "loop.example/g00834/laws.FnExactDecide", spec := "fnExactDecide", unfollowed := true, recurses := true, apart := false }
def FnExactDecideSaid : Prop := fnExactDecideRow.holds Try.pinned (OpenSpec.ofChange fnExactDecideSpec)

/-- ITS FALSE NEIGHBOUR: 'it returns false'. Refute it at one input. -/
def fnExactDecideWrong : ChangeSpec := { name := "fnExactDecide", fn := fun _ => fun
  | [d1, d2] => { results := [.lit (.bool false)], args := [d1, d2] }
  | _ => none }
def FnExactDecideWrongFalsely : Prop := fnExactDecideRow.holds Try.pinned (OpenSpec.ofChange fnExactDecideWrong)

/-- 'laws.FnExactOrderMatters': WHATEVER THE INPUT: true; the input reads as it did. -/
def fnExactOrderMattersSpec : ChangeSpec := { name := "fnExactOrderMatters", fn := fun _ => fun
  | [d1, d2, d3] => { results := [.lit (.bool true)], args := [d1, d2, d3] }
  | _ => none }
def fnExactOrderMattersRow : OpenClaim := { program := "ythfefanapneocaa", sum := "4dccafe76115ca90071718d4da5874191022ef20be008ea69f4f3b0605a4727f", func := "loop.example/g00834/laws.FnExactOrderMatters", spec := "fnExactOrderMatters", unfollowed := true, recurses := true, apart := false }
def FnExactOrderMattersSaid : Prop := fnExactOrderMattersRow.holds Try.pinned (OpenSpec.ofChange fnExactOrderMattersSpec)

/-- ITS FALSE NEIGHBOUR: 'it returns false'. Refute it at one input. -/
def fnExactOrderMattersWrong : ChangeSpec := { name := "fnExactOrderMatters", fn := fun _ => fun
  | [d1, d2, d3] => { results := [.lit (.bool false)], args := [d1, d2, d3] }
  | _ => none }
def FnExactOrderMattersWrongFalsely : Prop := fnExactOrderMattersRow.holds Try.pinned (OpenSpec.ofChange fnExactOrderMattersWrong)

/-- 'laws.FnExactWithdraw': WHATEVER THE INPUT: true; the input reads as it did. -/
def fnExactWithdrawSpec : ChangeSpec := { name := "fnExactWithdraw", fn := fun _ => fun
  | [d1, d2, d3] => { results := [.lit (.bool true)], args := [d1, d2, d3] }
  | _ => none }
def fnExactWithdrawRow : OpenClaim := { program := "ythfefanapneocaa", sum := "4dccafe76115ca90071718d4da5874191022ef20be008ea69f4f3b0605a4727f", func := "loop.example/g00834/laws.FnExactWithdraw", spec := "fnExactWithdraw", unfollowed := true, recurses := true, apart := false }
def FnExactWithdrawSaid : Prop := fnExactWithdrawRow.holds Try.pinned (OpenSpec.ofChange fnExactWithdrawSpec)

/-- ITS FALSE NEIGHBOUR: 'it returns false'. Refute it at one input. -/
def fnExactWithdrawWrong : ChangeSpec := { name := "fnExactWithdraw", fn := fun _ => fun
  | [d1, d2, d3] => { results := [.lit (.bool false)], args := [d1, d2, d3] }
  | _ => none }
def FnExactWithdrawWrongFalsely : Prop := fnExactWithdrawRow.holds Try.pinned (OpenSpec.ofChange fnExactWithdrawWrong)

/-- 'laws.FnExactPointsLost': WHATEVER THE INPUT: true; the input reads as it did. -/
def fnExactPointsLostSpec : ChangeSpec := { name := "fnExactPointsLost", fn := fun _ => fun
  | [d1, d2, d3] => { results := [.lit (.bool true)], args := [d1, d2, d3] }
  | _ => none }
def fnExactPointsLostRow : OpenClaim := { program := "ythfefanapneocaa", sum := "4dccafe76115ca90071718d4da5874191022ef20be008ea69f4f3b0605a4727f", func := "loop.example/g00834/laws.FnExactPointsLost", spec := "fnExactPointsLost", unfollowed := true, recurses := true, apart := false }
def FnExactPointsLostSaid : Prop := fnExactPointsLostRow.holds Try.pinned (OpenSpec.ofChange fnExactPointsLostSpec)

/-- ITS FALSE NEIGHBOUR: 'it returns false'. Refute it at one input. -/
def fnExactPointsLostWrong : ChangeSpec := { name := "fnExactPointsLost", fn := fun _ => fun
  | [d1, d2, d3] => { results := [.lit (.bool false)], args := [d1, d2, d3] }
  | _ => none }
def FnExactPointsLostWrongFalsely : Prop := fnExactPointsLostRow.holds Try.pinned (OpenSpec.ofChange fnExactPointsLostWrong)

/-- 'laws.FnExactCheckLead': WHATEVER THE INPUT: true; the input reads as it did. -/
def fnExactCheckLeadSpec : ChangeSpec := { name := "fnExactCheckLead", fn := fun _ => fun
  | [d1, d2, d3] => { results := [.lit (.bool true)], args := [d1, d2, d3] }
  | _ => none }
def fnExactCheckLeadRow : OpenClaim := { program := "ythfefanapneocaa", sum := "4dccafe76115ca90071718d4da5874191022ef20be008ea69f4f3b0605a4727f", func := "loop.example/g00834/laws.FnExactCheckLead", spec := "fnExactCheckLead", unfollowed := true, recurses := true, apart := false }
def FnExactCheckLeadSaid : Prop := fnExactCheckLeadRow.holds Try.pinned (OpenSpec.ofChange fnExactCheckLeadSpec)

/-- ITS FALSE NEIGHBOUR: 'it returns false'. Refute it at one input. -/
def fnExactCheckLeadWrong : ChangeSpec := { name := "fnExactCheckLead", fn := fun _ => fun
  | [d1, d2, d3] => { results := [.lit (.bool false)], args := [d1, d2, d3] }
  | _ => none }
def FnExactCheckLeadWrongFalsely : Prop := fnExactCheckLeadRow.holds Try.pinned (OpenSpec.ofChange fnExactCheckLeadWrong)

/-- 'laws.FnExactAddRace': WHATEVER THE INPUT: true; the input reads as it did. -/
def fnExactAddRaceSpec : ChangeSpec := { name := "fnExactAddRace", fn := fun _ => fun
  | [d1, d2] => { results := [.lit (.bool true)], args := [d1, d2] }
  | _ => none }
def fnExactAddRaceRow : OpenClaim := { program := "ythfefanapneocaa", sum := "4dccafe76115ca90071718d4da5874191022ef20be008ea69f4f3b0605a4727f", func := "loop.example/g00834/laws.FnExactAddRace", spec := "fnExactAddRace", unfollowed := true, recurses := true, apart := false }
def FnExactAddRaceSaid : Prop := fnExactAddRaceRow.holds Try.pinned (OpenSpec.ofChange fnExactAddRaceSpec)

/-- ITS FALSE NEIGHBOUR: 'it returns false'. Refute it at one input. -/
def fnExactAddRaceWrong : ChangeSpec := { name := "fnExactAddRace", fn := fun _ => fun
  | [d1, d2] => { results := [.lit (.bool false)], args := [d1, d2] }
  | _ => none }
def FnExactAddRaceWrongFalsely : Prop := fnExactAddRaceRow.holds Try.pinned (OpenSpec.ofChange fnExactAddRaceWrong)

/-- 'laws.FnExactGroupLine': WHATEVER THE INPUT: true; the input reads as it did. -/
def fnExactGroupLineSpec : ChangeSpec := { name := "fnExactGroupLine", fn := fun _ => fun
  | [d1, d2, d3] => { results := [.lit (.bool true)], args := [d1, d2, d3] }
  | _ => none }
def fnExactGroupLineRow : OpenClaim := { program := "ythfefanapneocaa", sum := "4dccafe76115ca90071718d4da5874191022ef20be008ea69f4f3b0605a4727f", func := "loop.example/g00834/laws.FnExactGroupLine", spec := "fnExactGroupLine", inPlace := ["internal/abi.NoEscape", "internal/bytealg.MakeNoZero"], unfollowed := true, recurses := true, apart := false }
def FnExactGroupLineSaid : Prop := fnExactGroupLineRow.holds Try.pinned (OpenSpec.ofChange fnExactGroupLineSpec)

/-- ITS FALSE NEIGHBOUR: 'it returns false'. Refute it at one input. -/
def fnExactGroupLineWrong : ChangeSpec := { name := "fnExactGroupLine", fn := fun _ => fun
  | [d1, d2, d3] => { results := [.lit (.bool false)], args := [d1, d2, d3] }
  | _ => none }
def FnExactGroupLineWrongFalsely : Prop := fnExactGroupLineRow.holds Try.pinned (OpenSpec.ofChange fnExactGroupLineWrong)

/- THE SECOND FORM. 'bulk': how many values and letters a reading holds, each counted each time it is reached (what is shared counts as often as it is met; a slice's spare places count too). A statement '..UptoSaid' is the law's where the arguments, and the package variables that the reading takes, are together of bulk at most 1048576: NARROWER than '..Said'. Prove '..Said' where nothing that the law and all that it calls make is longer than what came in: it says more and counts as full. Else prove '..UptoSaid'. A law counts once. -/
mutual
def uptoBulk {H : Type} : DataW H → Nat
  | .lit (.string bytes) => bytes.length + 1
  | .lit _ => 1
  | .nil => 1
  | .ptr d => uptoBulk d + 1
  | .slice elems spare => uptoBulkAll elems + uptoBulkAll spare + 1
  | .agg parts => uptoBulkAll parts + 1
  | .iface _ d => uptoBulk d + 1
  | .map entries => uptoBulkEntries entries + 1
  | .held _ => 1
def uptoBulkAll {H : Type} : List (DataW H) → Nat
  | [] => 0
  | d :: r => uptoBulk d + uptoBulkAll r
def uptoBulkEntries {H : Type} : List (Lit × DataW H) → Nat
  | [] => 0
  | x :: r => uptoBulkEntry x + uptoBulkEntries r
def uptoBulkEntry {H : Type} : Lit × DataW H → Nat
  | (.string bytes, d) => bytes.length + uptoBulk d + 1
  | (_, d) => uptoBulk d + 1
 end
def uptoSmall : (H : Type) → List (DataW H) → Bool := fun _ ds => decide (uptoBulkAll ds ≤ 1048576)
def OpenSpec.upto (s : _root_.Go.ChangeSpec) : _root_.Go.OpenSpec := { _root_.Go.OpenSpec.ofChange s with cond := some uptoSmall }

/-- 'laws.FnExactDecide', WHERE WHAT IT READS IS OF BULK AT MOST 1048576: true; the input reads as it did. -/
def fnExactDecideUptoRow : OpenClaim := { program := "ythfefanapneocaa", sum := "4dccafe76115ca90071718d4da5874191022ef20be008ea69f4f3b0605a4727f", func := "loop.example/g00834/laws.FnExactDecide", spec := "fnExactDecide", unfollowed := true, recurses := true, apart := false, narrowed := true }
def FnExactDecideUptoSaid : Prop := fnExactDecideUptoRow.holds Try.pinned (OpenSpec.upto fnExactDecideSpec)

/-- 'laws.FnExactOrderMatters', WHERE WHAT IT READS IS OF BULK AT MOST 1048576: true; the input reads as it did. -/
def fnExactOrderMattersUptoRow : OpenClaim := { program := "ythfefanapneocaa", sum := "4dccafe76115ca90071718d4da5874191022ef20be008ea69f4f3b0605a4727f", func := "loop.example/g00834/laws.FnExactOrderMatters", spec := "fnExactOrderMatters", unfollowed := true, recurses := true, apart := false, narrowed := true }
def FnExactOrderMattersUptoSaid : Prop := fnExactOrderMattersUptoRow.holds Try.pinned (OpenSpec.upto fnExactOrderMattersSpec)

/-- 'laws.FnExactWithdraw', WHERE WHAT IT READS IS OF BULK AT MOST 1048576: true; the input reads as it did. -/
def fnExactWithdrawUptoRow : OpenClaim := { program := "ythfefanapneocaa", sum := "4dccafe76115ca90071718d4da5874191022ef20be008ea69f4f3b0605a4727f", func := "loop.example/g00834/laws.FnExactWithdraw", spec := "fnExactWithdraw", unfollowed := true, recurses := true, apart := false, narrowed := true }
def FnExactWithdrawUptoSaid : Prop := fnExactWithdrawUptoRow.holds Try.pinned (OpenSpec.upto fnExactWithdrawSpec)

/-- 'laws.FnExactPointsLost', WHERE WHAT IT READS IS OF BULK AT MOST 1048576: true; the input reads as it did. -/
def fnExactPointsLostUptoRow : OpenClaim := { program := "ythfefanapneocaa", sum := "4dccafe76115ca90071718d4da5874191022ef20be008ea69f4f3b0605a4727f", func := "loop.example/g00834/laws.FnExactPointsLost", spec := "fnExactPointsLost", unfollowed := true, recurses := true, apart := false, narrowed := true }
def FnExactPointsLostUptoSaid : Prop := fnExactPointsLostUptoRow.holds Try.pinned (OpenSpec.upto fnExactPointsLostSpec)

/-- 'laws.FnExactCheckLead', WHERE WHAT IT READS IS OF BULK AT MOST 1048576: true; the input reads as it did. -/
def fnExactCheckLeadUptoRow : OpenClaim := { program := "ythfefanapneocaa", sum := "4dccafe76115ca90071718d4da5874191022ef20be008ea69f4f3b0605a4727f", func := "loop.example/g00834/laws.FnExactCheckLead", spec := "fnExactCheckLead", unfollowed := true, recurses := true, apart := false, narrowed := true }
def FnExactCheckLeadUptoSaid : Prop := fnExactCheckLeadUptoRow.holds Try.pinned (OpenSpec.upto fnExactCheckLeadSpec)

/-- 'laws.FnExactAddRace', WHERE WHAT IT READS IS OF BULK AT MOST 1048576: true; the input reads as it did. -/
def fnExactAddRaceUptoRow : OpenClaim := { program := "ythfefanapneocaa", sum := "4dccafe76115ca90071718d4da5874191022ef20be008ea69f4f3b0605a4727f", func := "loop.example/g00834/laws.FnExactAddRace", spec := "fnExactAddRace", unfollowed := true, recurses := true, apart := false, narrowed := true }
def FnExactAddRaceUptoSaid : Prop := fnExactAddRaceUptoRow.holds Try.pinned (OpenSpec.upto fnExactAddRaceSpec)

/-- 'laws.FnExactGroupLine', WHERE WHAT IT READS IS OF BULK AT MOST 1048576: true; the input reads as it did. -/
def fnExactGroupLineUptoRow : OpenClaim := { program := "ythfefanapneocaa", sum := "4dccafe76115ca90071718d4da5874191022ef20be008ea69f4f3b0605a4727f", func := "loop.example/g00834/laws.FnExactGroupLine", spec := "fnExactGroupLine", inPlace := ["internal/abi.NoEscape", "internal/bytealg.MakeNoZero"], unfollowed := true, recurses := true, apart := false, narrowed := true }
def FnExactGroupLineUptoSaid : Prop := fnExactGroupLineUptoRow.holds Try.pinned (OpenSpec.upto fnExactGroupLineSpec)

end Rows
end Go.Proofs.Ythfefanapneocaa
