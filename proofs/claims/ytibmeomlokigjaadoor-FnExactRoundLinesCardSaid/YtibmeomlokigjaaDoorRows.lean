/-
  NARROWER THAN 'FOR EVERY INPUT', by the rows' own cells (each row's printed sentence says how): FnExactFormatGame: laid · FnExactFormatTeam: laid · FnExactFormatNote: laid · FnExactFormatRules: laid · FnExactRoundLines: laid · FnExactCupLine: laid · FnCups: laid.
  DERIVED. THE GIVEN ROWS OF THIS SEAT. 7 by the template 'for every input the law returns true; each argument reads behind the call as it read before'; 0 by the template 'total and deterministic' (their statements: YtibmeomlokigjaaDoorTotals.lean).
  GIVEN WITH THE SEED: the statements are not yours to turn. If you find one false, say at which input.
  Laid BY PROGRAM, IN A SANDBOX (cutbox-rows.mjs): the forced cells as the released guide's own fill.sh prints them over the translation 3b1060953021136c… (all of the seat's roots in one cut). By AI agents, Wed Nov 11 2026. No macro, syntax, notation, axiom, sorry.
-/
import Derived.Test.YtibmeomlokigjaaDoorChecked
import GoSem.Claim
import GoSem.ClaimJoined
import GoSem.ClaimMapViews
import Derived.JoinedTies
import Derived.KernelRfl
namespace Go.Proofs.YtibmeomlokigjaaDoor
/- THE CELL 'sum', in the pinned program and in every row, IS THE sha256 OF THE DUMP (.gsa) THAT YtibmeomlokigjaaDoorProg.lean LOADS. Nothing in Lean hashes anything: it is a label: what it is worth is what the hold of that sum in a sandbox is worth. -/
noncomputable def Tryd.pinned : Pinned := { name := "ytibmeomlokigjaadoor", sum := "3b1060953021136c4cd5b91ae0833eb84ca19acf9fb92135dda62f891df89609", checked := Tryd.checked }
namespace Rows
def none {H : Type} : Left H := { results := [], args := [] }

/- WHAT THE LISTED PACKAGE-LEVEL VARIABLES READ AS WHEN THE CALL BEGINS. Each datum BY PROGRAM (the guide's laid-datum.mjs) off the statement by which the dump's own 'gosem.cut.vars' lays the variable. In a bare row this is a premise. The card (YtibmeomlokigjaaDoorCards.lean) ties it to the program's text. -/
def laid_math_bits_deBruijn32tab {H : Type} : DataW H := .agg [.lit (.int .u8 0), .lit (.int .u8 1), .lit (.int .u8 28), .lit (.int .u8 2), .lit (.int .u8 29), .lit (.int .u8 14), .lit (.int .u8 24), .lit (.int .u8 3), .lit (.int .u8 30), .lit (.int .u8 22), .lit (.int .u8 20), .lit (.int .u8 15), .lit (.int .u8 25), .lit (.int .u8 17), .lit (.int .u8 4), .lit (.int .u8 8), .lit (.int .u8 31), .lit (.int .u8 27), .lit (.int .u8 13), .lit (.int .u8 23), .lit (.int .u8 21), .lit (.int .u8 19), .lit (.int .u8 16), .lit (.int .u8 7), .lit (.int .u8 26), .lit (.int .u8 12), .lit (.int .u8 18), .lit (.int .u8 6), .lit (.int .u8 11), .lit (.int .u8 5), .lit (.int .u8 10), .lit (.int .u8 9)]
def laid_math_bits_deBruijn64tab {H : Type} : DataW H := .agg [.lit (.int .u8 0), .lit (.int .u8 1), .lit (.int .u8 56), .lit (.int .u8 2), .lit (.int .u8 57), .lit (.int .u8 49), .lit (.int .u8 28), .lit (.int .u8 3), .lit (.int .u8 61), .lit (.int .u8 58), .lit (.int .u8 42), .lit (.int .u8 50), .lit (.int .u8 38), .lit (.int .u8 29), .lit (.int .u8 17), .lit (.int .u8 4), .lit (.int .u8 62), .lit (.int .u8 47), .lit (.int .u8 59), .lit (.int .u8 36), .lit (.int .u8 45), .lit (.int .u8 43), .lit (.int .u8 51), .lit (.int .u8 22), .lit (.int .u8 53), .lit (.int .u8 39), .lit (.int .u8 33), .lit (.int .u8 30), .lit (.int .u8 24), .lit (.int .u8 18), .lit (.int .u8 12), .lit (.int .u8 5), .lit (.int .u8 63), .lit (.int .u8 55), .lit (.int .u8 48), .lit (.int .u8 27), .lit (.int .u8 60), .lit (.int .u8 41), .lit (.int .u8 37), .lit (.int .u8 16), .lit (.int .u8 46), .lit (.int .u8 35), .lit (.int .u8 44), .lit (.int .u8 21), .lit (.int .u8 52), .lit (.int .u8 32), .lit (.int .u8 23), .lit (.int .u8 11), .lit (.int .u8 54), .lit (.int .u8 26), .lit (.int .u8 40), .lit (.int .u8 15), .lit (.int .u8 34), .lit (.int .u8 20), .lit (.int .u8 31), .lit (.int .u8 10), .lit (.int .u8 25), .lit (.int .u8 14), .lit (.int .u8 19), .lit (.int .u8 9), .lit (.int .u8 13), .lit (.int .u8 8), .lit (.int .u8 7), .lit (.int .u8 6)]
def laid_internal_strconv_uint64pow10 {H : Type} : DataW H := .agg [.lit (.int .u64 1), .lit (.int .u64 10), .lit (.int .u64 100), .lit (.int .u64 1000), .lit (.int .u64 10000), .lit (.int .u64 100000), .lit (.int .u64 1000000), .lit (.int .u64 10000000), .lit (.int .u64 100000000), .lit (.int .u64 1000000000), .lit (.int .u64 10000000000), .lit (.int .u64 100000000000), .lit (.int .u64 1000000000000), .lit (.int .u64 10000000000000), .lit (.int .u64 100000000000000), .lit (.int .u64 1000000000000000), .lit (.int .u64 10000000000000000), .lit (.int .u64 100000000000000000), .lit (.int .u64 1000000000000000000), .lit (.int .u64 10000000000000000000)]

/-- 'laws.FnExactFormatGame': WHATEVER THE INPUT: true; the input reads as it did. -/
def fnExactFormatGameSpec : ChangeSpec := { name := "fnExactFormatGame", fn := fun _ => fun
  | [d] => { results := [.lit (.bool true)], args := [d] }
  | _ => none }
def fnExactFormatGameRow : OpenClaim := { program := "ytibmeomlokigjaadoor", sum := "3b1060953021136c4cd5b91ae0833eb84ca19acf9fb92135dda62f891df89609", func := "loop.example/g00834/laws.FnExactFormatGame", spec := "fnExactFormatGame", inPlace := ["internal/abi.NoEscape", "internal/bytealg.MakeNoZero"], recurses := true, named := ["internal/strconv.uint64pow10", "math/bits.deBruijn32tab", "math/bits.deBruijn64tab"], apart := false, laid := [("math/bits.deBruijn32tab", laid_math_bits_deBruijn32tab), ("math/bits.deBruijn64tab", laid_math_bits_deBruijn64tab), ("internal/strconv.uint64pow10", laid_internal_strconv_uint64pow10)] }
def FnExactFormatGameSaid : Prop := fnExactFormatGameRow.holds Tryd.pinned (OpenSpec.ofChange fnExactFormatGameSpec)

/-- ITS FALSE NEIGHBOUR: 'it returns false'. Refute it at one input. -/
def fnExactFormatGameWrong : ChangeSpec := { name := "fnExactFormatGame", fn := fun _ => fun
  | [d] => { results := [.lit (.bool false)], args := [d] }
  | _ => none }
def FnExactFormatGameWrongFalsely : Prop := fnExactFormatGameRow.holds Tryd.pinned (OpenSpec.ofChange fnExactFormatGameWrong)

/-- 'laws.FnExactFormatTeam': WHATEVER THE INPUT: true; the input reads as it did. -/
def fnExactFormatTeamSpec : ChangeSpec := { name := "fnExactFormatTeam", fn := fun _ => fun
  | [d] => { results := [.lit (.bool true)], args := [d] }
  | _ => none }
def fnExactFormatTeamRow : OpenClaim := { program := "ytibmeomlokigjaadoor", sum := "3b1060953021136c4cd5b91ae0833eb84ca19acf9fb92135dda62f891df89609", func := "loop.example/g00834/laws.FnExactFormatTeam", spec := "fnExactFormatTeam", inPlace := ["internal/abi.NoEscape", "internal/bytealg.MakeNoZero"], recurses := true, named := ["internal/strconv.uint64pow10", "math/bits.deBruijn32tab", "math/bits.deBruijn64tab"], apart := false, laid := [("math/bits.deBruijn32tab", laid_math_bits_deBruijn32tab), ("math/bits.deBruijn64tab", laid_math_bits_deBruijn64tab), ("internal/strconv.uint64pow10", laid_internal_strconv_uint64pow10)] }
def FnExactFormatTeamSaid : Prop := fnExactFormatTeamRow.holds Tryd.pinned (OpenSpec.ofChange fnExactFormatTeamSpec)

/-- ITS FALSE NEIGHBOUR: 'it returns false'. Refute it at one input. -/
def fnExactFormatTeamWrong : ChangeSpec := { name := "fnExactFormatTeam", fn := fun _ => fun
  | [d] => { results := [.lit (.bool false)], args := [d] }
  | _ => none }
def FnExactFormatTeamWrongFalsely : Prop := fnExactFormatTeamRow.holds Tryd.pinned (OpenSpec.ofChange fnExactFormatTeamWrong)

/-- 'laws.FnExactFormatNote': WHATEVER THE INPUT: true; the input reads as it did. -/
def fnExactFormatNoteSpec : ChangeSpec := { name := "fnExactFormatNote", fn := fun _ => fun
  | [d] => { results := [.lit (.bool true)], args := [d] }
  | _ => none }
def fnExactFormatNoteRow : OpenClaim := { program := "ytibmeomlokigjaadoor", sum := "3b1060953021136c4cd5b91ae0833eb84ca19acf9fb92135dda62f891df89609", func := "loop.example/g00834/laws.FnExactFormatNote", spec := "fnExactFormatNote", inPlace := ["internal/abi.NoEscape", "internal/bytealg.MakeNoZero"], recurses := true, named := ["internal/strconv.uint64pow10", "math/bits.deBruijn32tab", "math/bits.deBruijn64tab"], apart := false, laid := [("math/bits.deBruijn32tab", laid_math_bits_deBruijn32tab), ("math/bits.deBruijn64tab", laid_math_bits_deBruijn64tab), ("internal/strconv.uint64pow10", laid_internal_strconv_uint64pow10)] }
def FnExactFormatNoteSaid : Prop := fnExactFormatNoteRow.holds Tryd.pinned (OpenSpec.ofChange fnExactFormatNoteSpec)

/-- ITS FALSE NEIGHBOUR: 'it returns false'. Refute it at one input. -/
def fnExactFormatNoteWrong : ChangeSpec := { name := "fnExactFormatNote", fn := fun _ => fun
  | [d] => { results := [.lit (.bool false)], args := [d] }
  | _ => none }
def FnExactFormatNoteWrongFalsely : Prop := fnExactFormatNoteRow.holds Tryd.pinned (OpenSpec.ofChange fnExactFormatNoteWrong)

/-- 'laws.FnExactFormatRules': WHATEVER THE INPUT: true; the input reads as it did. -/
def fnExactFormatRulesSpec : ChangeSpec := { name := "fnExactFormatRules", fn := fun _ => fun
  | [d] => { results := [.lit (.bool true)], args := [d] }
  | _ => none }
def fnExactFormatRulesRow : OpenClaim := { program := "ytibmeomlokigjaadoor", sum := "3b1060953021136c4cd5b91ae0833eb84ca19acf9fb92135dda62f891df89609", func := "loop.example/g00834/laws.FnExactFormatRules", spec := "fnExactFormatRules", inPlace := ["internal/abi.NoEscape", "internal/bytealg.MakeNoZero"], recurses := true, named := ["internal/strconv.uint64pow10", "math/bits.deBruijn32tab", "math/bits.deBruijn64tab"], apart := false, laid := [("math/bits.deBruijn32tab", laid_math_bits_deBruijn32tab), ("math/bits.deBruijn64tab", laid_math_bits_deBruijn64tab), ("internal/strconv.uint64pow10", laid_internal_strconv_uint64pow10)] }
def FnExactFormatRulesSaid : Prop := fnExactFormatRulesRow.holds Tryd.pinned (OpenSpec.ofChange fnExactFormatRulesSpec)

/-- ITS FALSE NEIGHBOUR: 'it returns false'. Refute it at one input. -/
def fnExactFormatRulesWrong : ChangeSpec := { name := "fnExactFormatRules", fn := fun _ => fun
  | [d] => { results := [.lit (.bool false)], args := [d] }
  | _ => none }
def FnExactFormatRulesWrongFalsely : Prop := fnExactFormatRulesRow.holds Tryd.pinned (OpenSpec.ofChange fnExactFormatRulesWrong)

/-- 'laws.FnExactRoundLines': WHATEVER THE INPUT: true; the input reads as it did. -/
def fnExactRoundLinesSpec : ChangeSpec := { name := "fnExactRoundLines", fn := fun _ => fun
  | [d] => { results := [.lit (.bool true)], args := [d] }
  | _ => none }
def fnExactRoundLinesRow : OpenClaim := { program := "ytibmeomlokigjaadoor", sum := "3b1060953021136c4cd5b91ae0833eb84ca19acf9fb92135dda62f891df89609", func := "loop.example/g00834/laws.FnExactRoundLines", spec := "fnExactRoundLines", inPlace := ["internal/abi.NoEscape", "internal/bytealg.MakeNoZero"], recurses := true, named := ["internal/strconv.uint64pow10", "math/bits.deBruijn32tab", "math/bits.deBruijn64tab"], apart := false, laid := [("math/bits.deBruijn32tab", laid_math_bits_deBruijn32tab), ("math/bits.deBruijn64tab", laid_math_bits_deBruijn64tab), ("internal/strconv.uint64pow10", laid_internal_strconv_uint64pow10)] }
def FnExactRoundLinesSaid : Prop := fnExactRoundLinesRow.holds Tryd.pinned (OpenSpec.ofChange fnExactRoundLinesSpec)

/-- ITS FALSE NEIGHBOUR: 'it returns false'. Refute it at one input. -/
def fnExactRoundLinesWrong : ChangeSpec := { name := "fnExactRoundLines", fn := fun _ => fun
  | [d] => { results := [.lit (.bool false)], args := [d] }
  | _ => none }
def FnExactRoundLinesWrongFalsely : Prop := fnExactRoundLinesRow.holds Tryd.pinned (OpenSpec.ofChange fnExactRoundLinesWrong)

/-- 'laws.FnExactCupLine': WHATEVER THE INPUT: true; the input reads as it did. -/
def fnExactCupLineSpec : ChangeSpec := { name := "fnExactCupLine", fn := fun _ => fun
  | [d] => { results := [.lit (.bool true)], args := [d] }
  | _ => none }
def fnExactCupLineRow : OpenClaim := { program := "ytibmeomlokigjaadoor", sum := "3b1060953021136c4cd5b91ae0833eb84ca19acf9fb92135dda62f891df89609", func := "loop.example/g00834/laws.FnExactCupLine", spec := "fnExactCupLine", inPlace := ["internal/abi.NoEscape", "internal/bytealg.MakeNoZero"], recurses := true, named := ["internal/strconv.uint64pow10", "math/bits.deBruijn32tab", "math/bits.deBruijn64tab"], apart := false, laid := [("math/bits.deBruijn32tab", laid_math_bits_deBruijn32tab), ("math/bits.deBruijn64tab", laid_math_bits_deBruijn64tab), ("internal/strconv.uint64pow10", laid_internal_strconv_uint64pow10)] }
def FnExactCupLineSaid : Prop := fnExactCupLineRow.holds Tryd.pinned (OpenSpec.ofChange fnExactCupLineSpec)

/-- ITS FALSE NEIGHBOUR: 'it returns false'. Refute it at one input. -/
def fnExactCupLineWrong : ChangeSpec := { name := "fnExactCupLine", fn := fun _ => fun
  | [d] => { results := [.lit (.bool false)], args := [d] }
  | _ => none }
def FnExactCupLineWrongFalsely : Prop := fnExactCupLineRow.holds Tryd.pinned (OpenSpec.ofChange fnExactCupLineWrong)

/-- 'laws.FnCups': WHATEVER THE INPUT: true; the input reads as it did. -/
def fnCupsSpec : ChangeSpec := { name := "fnCups", fn := fun _ => fun
  | [d] => { results := [.lit (.bool true)], args := [d] }
  | _ => none }
def fnCupsRow : OpenClaim := { program := "ytibmeomlokigjaadoor", sum := "3b1060953021136c4cd5b91ae0833eb84ca19acf9fb92135dda62f891df89609", func := "loop.example/g00834/laws.FnCups", spec := "fnCups", inPlace := ["internal/abi.NoEscape", "internal/bytealg.MakeNoZero"], recurses := true, named := ["internal/strconv.uint64pow10", "math/bits.deBruijn32tab", "math/bits.deBruijn64tab"], apart := false, laid := [("math/bits.deBruijn32tab", laid_math_bits_deBruijn32tab), ("math/bits.deBruijn64tab", laid_math_bits_deBruijn64tab), ("internal/strconv.uint64pow10", laid_internal_strconv_uint64pow10)] }
def FnCupsSaid : Prop := fnCupsRow.holds Tryd.pinned (OpenSpec.ofChange fnCupsSpec)

/-- ITS FALSE NEIGHBOUR: 'it returns false'. Refute it at one input. -/
def fnCupsWrong : ChangeSpec := { name := "fnCups", fn := fun _ => fun
  | [d] => { results := [.lit (.bool false)], args := [d] }
  | _ => none }
def FnCupsWrongFalsely : Prop := fnCupsRow.holds Tryd.pinned (OpenSpec.ofChange fnCupsWrong)

/- THE SECOND FORM. 'bulk': how many values and letters a reading holds, each counted each time it is reached (what is shared counts as often as it is met; a slice's spare places count too). A statement '..UptoSaid' is the law's where the arguments, and the package variables that the reading takes, are together of bulk at most 1048576: NARROWER than '..Said'. Prove '..Said' where nothing that the law and all that it calls make is longer than what came in: it says more and counts as full. Else prove '..UptoSaid'. A law counts once. -/
mutual
def uptoBulk {H : Type} : DataW H → Nat
  | .lit (.string bytes) => bytes.length + 1
  | .lit _ => 1
  | .nil => 1
  | .ptr d => uptoBulk d + 1
  | .slice elems spare => uptoBulkAll elems + uptoBulkAll spare + 1
  | .agg parts => uptoBulkAll parts + 1
  | .iface _ d => uptoBulk d + 1
  | .map entries => uptoBulkEntries entries + 1
  | .held _ => 1
def uptoBulkAll {H : Type} : List (DataW H) → Nat
  | [] => 0
  | d :: r => uptoBulk d + uptoBulkAll r
def uptoBulkEntries {H : Type} : List (Lit × DataW H) → Nat
  | [] => 0
  | x :: r => uptoBulkEntry x + uptoBulkEntries r
def uptoBulkEntry {H : Type} : Lit × DataW H → Nat
  | (.string bytes, d) => bytes.length + uptoBulk d + 1
  | (_, d) => uptoBulk d + 1
 end
def uptoSmall : (H : Type) → List (DataW H) → Bool := fun _ ds => decide (uptoBulkAll ds ≤ 1048576)
def OpenSpec.upto (s : _root_.Go.ChangeSpec) : _root_.Go.OpenSpec := { _root_.Go.OpenSpec.ofChange s with cond := some uptoSmall }

/-- 'laws.FnExactFormatGame', WHERE WHAT IT READS IS OF BULK AT MOST 1048576: true; the input reads as it did. -/
def fnExactFormatGameUptoRow : OpenClaim := { program := "ytibmeomlokigjaadoor", sum := "3b1060953021136c4cd5b91ae0833eb84ca19acf9fb92135dda62f891df89609", func := "loop.example/g00834/laws.FnExactFormatGame", spec := "fnExactFormatGame", inPlace := ["internal/abi.NoEscape", "internal/bytealg.MakeNoZero"], recurses := true, named := ["internal/strconv.uint64pow10", "math/bits.deBruijn32tab", "math/bits.deBruijn64tab"], apart := false, laid := [("math/bits.deBruijn32tab", laid_math_bits_deBruijn32tab), ("math/bits.deBruijn64tab", laid_math_bits_deBruijn64tab), ("internal/strconv.uint64pow10", laid_internal_strconv_uint64pow10)], narrowed := true }
def FnExactFormatGameUptoSaid : Prop := fnExactFormatGameUptoRow.holds Tryd.pinned (OpenSpec.upto fnExactFormatGameSpec)

/-- 'laws.FnExactFormatTeam', WHERE WHAT IT READS IS OF BULK AT MOST 1048576: true; the input reads as it did. -/
def fnExactFormatTeamUptoRow : OpenClaim := { program := "ytibmeomlokigjaadoor", sum := "3b1060953021136c4cd5b91ae0833eb84ca19acf9fb92135dda62f891df89609", func := "loop.example/g00834/laws.FnExactFormatTeam", spec := "fnExactFormatTeam", inPlace := ["internal/abi.NoEscape", "internal/bytealg.MakeNoZero"], recurses := true, named := ["internal/strconv.uint64pow10", "math/bits.deBruijn32tab", "math/bits.deBruijn64tab"], apart := false, laid := [("math/bits.deBruijn32tab", laid_math_bits_deBruijn32tab), ("math/bits.deBruijn64tab", laid_math_bits_deBruijn64tab), ("internal/strconv.uint64pow10", laid_internal_strconv_uint64pow10)], narrowed := true }
def FnExactFormatTeamUptoSaid : Prop := fnExactFormatTeamUptoRow.holds Tryd.pinned (OpenSpec.upto fnExactFormatTeamSpec)

/-- 'laws.FnExactFormatNote', WHERE WHAT IT READS IS OF BULK AT MOST 1048576: true; the input reads as it did. -/
def fnExactFormatNoteUptoRow : OpenClaim := { program := "ytibmeomlokigjaadoor", sum := "3b1060953021136c4cd5b91ae0833eb84ca19acf9fb92135dda62f891df89609", func := "loop.example/g00834/laws.FnExactFormatNote", spec := "fnExactFormatNote", inPlace := ["internal/abi.NoEscape", "internal/bytealg.MakeNoZero"], recurses := true, named := ["internal/strconv.uint64pow10", "math/bits.deBruijn32tab", "math/bits.deBruijn64tab"], apart := false, laid := [("math/bits.deBruijn32tab", laid_math_bits_deBruijn32tab), ("math/bits.deBruijn64tab", laid_math_bits_deBruijn64tab), ("internal/strconv.uint64pow10", laid_internal_strconv_uint64pow10)], narrowed := true }
def FnExactFormatNoteUptoSaid : Prop := fnExactFormatNoteUptoRow.holds Tryd.pinned (OpenSpec.upto fnExactFormatNoteSpec)

/-- 'laws.FnExactFormatRules', WHERE WHAT IT READS IS OF BULK AT MOST 1048576: true; the input reads as it did. -/
def fnExactFormatRulesUptoRow : OpenClaim := { program := "ytibmeomlokigjaadoor", sum := "3b1060953021136c4cd5b91ae0833eb84ca19acf9fb92135dda62f891df89609", func := "loop.example/g00834/laws.FnExactFormatRules", spec := "fnExactFormatRules", inPlace := ["internal/abi.NoEscape", "internal/bytealg.MakeNoZero"], recurses := true, named := ["internal/strconv.uint64pow10", "math/bits.deBruijn32tab", "math/bits.deBruijn64tab"], apart := false, laid := [("math/bits.deBruijn32tab", laid_math_bits_deBruijn32tab), ("math/bits.deBruijn64tab", laid_math_bits_deBruijn64tab), ("internal/strconv.uint64pow10", laid_internal_strconv_uint64pow10)], narrowed := true }
def FnExactFormatRulesUptoSaid : Prop := fnExactFormatRulesUptoRow.holds Tryd.pinned (OpenSpec.upto fnExactFormatRulesSpec)

/-- 'laws.FnExactRoundLines', WHERE WHAT IT READS IS OF BULK AT MOST 1048576: true; the input reads as it did. -/
def fnExactRoundLinesUptoRow : OpenClaim := { program := "ytibmeomlokigjaadoor", sum := "3b1060953021136c4cd5b91ae0833eb84ca19acf9fb92135dda62f891df89609", func := "loop.example/g00834/laws.FnExactRoundLines", spec := "fnExactRoundLines", inPlace := ["internal/abi.NoEscape", "internal/bytealg.MakeNoZero"], recurses := true, named := ["internal/strconv.uint64pow10", "math/bits.deBruijn32tab", "math/bits.deBruijn64tab"], apart := false, laid := [("math/bits.deBruijn32tab", laid_math_bits_deBruijn32tab), ("math/bits.deBruijn64tab", laid_math_bits_deBruijn64tab), ("internal/strconv.uint64pow10", laid_internal_strconv_uint64pow10)], narrowed := true }
def FnExactRoundLinesUptoSaid : Prop := fnExactRoundLinesUptoRow.holds Tryd.pinned (OpenSpec.upto fnExactRoundLinesSpec)

/-- 'laws.FnExactCupLine', WHERE WHAT IT READS IS OF BULK AT MOST 1048576: true; the input reads as it did. -/
def fnExactCupLineUptoRow : OpenClaim := { program := "ytibmeomlokigjaadoor", sum := "3b1060953021136c4cd5b91ae0833eb84ca19acf9fb92135dda62f891df89609", func := "loop.example/g00834/laws.FnExactCupLine", spec := "fnExactCupLine", inPlace := ["internal/abi.NoEscape", "internal/bytealg.MakeNoZero"], recurses := true, named := ["internal/strconv.uint64pow10", "math/bits.deBruijn32tab", "math/bits.deBruijn64tab"], apart := false, laid := [("math/bits.deBruijn32tab", laid_math_bits_deBruijn32tab), ("math/bits.deBruijn64tab", laid_math_bits_deBruijn64tab), ("internal/strconv.uint64pow10", laid_internal_strconv_uint64pow10)], narrowed := true }
def FnExactCupLineUptoSaid : Prop := fnExactCupLineUptoRow.holds Tryd.pinned (OpenSpec.upto fnExactCupLineSpec)

/-- 'laws.FnCups', WHERE WHAT IT READS IS OF BULK AT MOST 1048576: true; the input reads as it did. -/
def fnCupsUptoRow : OpenClaim := { program := "ytibmeomlokigjaadoor", sum := "3b1060953021136c4cd5b91ae0833eb84ca19acf9fb92135dda62f891df89609", func := "loop.example/g00834/laws.FnCups", spec := "fnCups", inPlace := ["internal/abi.NoEscape", "internal/bytealg.MakeNoZero"], recurses := true, named := ["internal/strconv.uint64pow10", "math/bits.deBruijn32tab", "math/bits.deBruijn64tab"], apart := false, laid := [("math/bits.deBruijn32tab", laid_math_bits_deBruijn32tab), ("math/bits.deBruijn64tab", laid_math_bits_deBruijn64tab), ("internal/strconv.uint64pow10", laid_internal_strconv_uint64pow10)], narrowed := true }
def FnCupsUptoSaid : Prop := fnCupsUptoRow.holds Tryd.pinned (OpenSpec.upto fnCupsSpec)

end Rows
end Go.Proofs.YtibmeomlokigjaaDoor
