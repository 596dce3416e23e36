/-
  DERIVED. GIVEN WITH THE SEED: THE CARDS: each row of YtibmeomlokigjaaDoorRows.lean that lists a variable, with what it lists TIED to the program's text (the seventh form; the later family's looks); each row that meets fmt, with fmt's text TOLD by the authors' own Lean function (tested against real Go, not proved from fmt's source: count such statements apart). THE CARD IS WHAT COUNTS. Prove the row's statement (the work); the ties are given (YtibmeomlokigjaaDoorTie.lean); close each card by the builder's one call (the guide's Derived/Test/ToyasCard.lean, 'card_holds'). Laid BY PROGRAM, IN A SANDBOX (cutbox-door.mjs). By AI agents, Wed Nov 11 2026. No macro, syntax, notation, axiom, sorry.
-/
import Derived.Test.YtibmeomlokigjaaDoorRows
import GoSem.ClaimSeven
namespace Go.Proofs.YtibmeomlokigjaaDoor
namespace Rows

/-- THE TIED CARD OF 'laws.FnExactFormatGame'. -/
def fnExactFormatGameCard : Claim7 := { stood := { row := fnExactFormatGameRow, standIns := [], harness := (true, "a6e8e4b77242bb99ec034f5991610b756a84533526b99ec4e7efdd8f2b96172f"), looks := false }, kinds := [], alts := [], laidByText := true, laidKinds := [.data, .data, .data], laidTests := true, laidLooks := .later }
def FnExactFormatGameCardSaid : Prop := Claim7.holds Tryd.pinned (.plain (OpenSpec.ofChange fnExactFormatGameSpec)) fnExactFormatGameCard

/-- THE TIED CARD OF 'laws.FnExactFormatTeam'. -/
def fnExactFormatTeamCard : Claim7 := { stood := { row := fnExactFormatTeamRow, standIns := [], harness := (true, "a6e8e4b77242bb99ec034f5991610b756a84533526b99ec4e7efdd8f2b96172f"), looks := false }, kinds := [], alts := [], laidByText := true, laidKinds := [.data, .data, .data], laidTests := true, laidLooks := .later }
def FnExactFormatTeamCardSaid : Prop := Claim7.holds Tryd.pinned (.plain (OpenSpec.ofChange fnExactFormatTeamSpec)) fnExactFormatTeamCard

/-- THE TIED CARD OF 'laws.FnExactFormatNote'. -/
def fnExactFormatNoteCard : Claim7 := { stood := { row := fnExactFormatNoteRow, standIns := [], harness := (true, "a6e8e4b77242bb99ec034f5991610b756a84533526b99ec4e7efdd8f2b96172f"), looks := false }, kinds := [], alts := [], laidByText := true, laidKinds := [.data, .data, .data], laidTests := true, laidLooks := .later }
def FnExactFormatNoteCardSaid : Prop := Claim7.holds Tryd.pinned (.plain (OpenSpec.ofChange fnExactFormatNoteSpec)) fnExactFormatNoteCard

/-- THE TIED CARD OF 'laws.FnExactFormatRules'. -/
def fnExactFormatRulesCard : Claim7 := { stood := { row := fnExactFormatRulesRow, standIns := [], harness := (true, "a6e8e4b77242bb99ec034f5991610b756a84533526b99ec4e7efdd8f2b96172f"), looks := false }, kinds := [], alts := [], laidByText := true, laidKinds := [.data, .data, .data], laidTests := true, laidLooks := .later }
def FnExactFormatRulesCardSaid : Prop := Claim7.holds Tryd.pinned (.plain (OpenSpec.ofChange fnExactFormatRulesSpec)) fnExactFormatRulesCard

/-- THE TIED CARD OF 'laws.FnExactRoundLines'. -/
def fnExactRoundLinesCard : Claim7 := { stood := { row := fnExactRoundLinesRow, standIns := [], harness := (true, "a6e8e4b77242bb99ec034f5991610b756a84533526b99ec4e7efdd8f2b96172f"), looks := false }, kinds := [], alts := [], laidByText := true, laidKinds := [.data, .data, .data], laidTests := true, laidLooks := .later }
def FnExactRoundLinesCardSaid : Prop := Claim7.holds Tryd.pinned (.plain (OpenSpec.ofChange fnExactRoundLinesSpec)) fnExactRoundLinesCard

/-- THE TIED CARD OF 'laws.FnExactCupLine'. -/
def fnExactCupLineCard : Claim7 := { stood := { row := fnExactCupLineRow, standIns := [], harness := (true, "a6e8e4b77242bb99ec034f5991610b756a84533526b99ec4e7efdd8f2b96172f"), looks := false }, kinds := [], alts := [], laidByText := true, laidKinds := [.data, .data, .data], laidTests := true, laidLooks := .later }
def FnExactCupLineCardSaid : Prop := Claim7.holds Tryd.pinned (.plain (OpenSpec.ofChange fnExactCupLineSpec)) fnExactCupLineCard

/-- THE TIED CARD OF 'laws.FnCups'. -/
def fnCupsCard : Claim7 := { stood := { row := fnCupsRow, standIns := [], harness := (true, "a6e8e4b77242bb99ec034f5991610b756a84533526b99ec4e7efdd8f2b96172f"), looks := false }, kinds := [], alts := [], laidByText := true, laidKinds := [.data, .data, .data], laidTests := true, laidLooks := .later }
def FnCupsCardSaid : Prop := Claim7.holds Tryd.pinned (.plain (OpenSpec.ofChange fnCupsSpec)) fnCupsCard

/-- THE SECOND FORM's CARD OF 'laws.FnExactFormatGame'. -/
def fnExactFormatGameUptoCard : Claim7 := { stood := { row := fnExactFormatGameUptoRow, standIns := [], harness := (true, "a6e8e4b77242bb99ec034f5991610b756a84533526b99ec4e7efdd8f2b96172f"), looks := false }, kinds := [], alts := [], laidByText := true, laidKinds := [.data, .data, .data], laidTests := true, laidLooks := .later }
def FnExactFormatGameUptoCardSaid : Prop := Claim7.holds Tryd.pinned (.plain (OpenSpec.upto fnExactFormatGameSpec)) fnExactFormatGameUptoCard

/-- THE SECOND FORM's CARD OF 'laws.FnExactFormatTeam'. -/
def fnExactFormatTeamUptoCard : Claim7 := { stood := { row := fnExactFormatTeamUptoRow, standIns := [], harness := (true, "a6e8e4b77242bb99ec034f5991610b756a84533526b99ec4e7efdd8f2b96172f"), looks := false }, kinds := [], alts := [], laidByText := true, laidKinds := [.data, .data, .data], laidTests := true, laidLooks := .later }
def FnExactFormatTeamUptoCardSaid : Prop := Claim7.holds Tryd.pinned (.plain (OpenSpec.upto fnExactFormatTeamSpec)) fnExactFormatTeamUptoCard

/-- THE SECOND FORM's CARD OF 'laws.FnExactFormatNote'. -/
def fnExactFormatNoteUptoCard : Claim7 := { stood := { row := fnExactFormatNoteUptoRow, standIns := [], harness := (true, "a6e8e4b77242bb99ec034f5991610b756a84533526b99ec4e7efdd8f2b96172f"), looks := false }, kinds := [], alts := [], laidByText := true, laidKinds := [.data, .data, .data], laidTests := true, laidLooks := .later }
def FnExactFormatNoteUptoCardSaid : Prop := Claim7.holds Tryd.pinned (.plain (OpenSpec.upto fnExactFormatNoteSpec)) fnExactFormatNoteUptoCard

/-- THE SECOND FORM's CARD OF 'laws.FnExactFormatRules'. -/
def fnExactFormatRulesUptoCard : Claim7 := { stood := { row := fnExactFormatRulesUptoRow, standIns := [], harness := (true, "a6e8e4b77242bb99ec034f5991610b756a84533526b99ec4e7efdd8f2b96172f"), looks := false }, kinds := [], alts := [], laidByText := true, laidKinds := [.data, .data, .data], laidTests := true, laidLooks := .later }
def FnExactFormatRulesUptoCardSaid : Prop := Claim7.holds Tryd.pinned (.plain (OpenSpec.upto fnExactFormatRulesSpec)) fnExactFormatRulesUptoCard

/-- THE SECOND FORM's CARD OF 'laws.FnExactRoundLines'. -/
def fnExactRoundLinesUptoCard : Claim7 := { stood := { row := fnExactRoundLinesUptoRow, standIns := [], harness := (true, "a6e8e4b77242bb99ec034f5991610b756a84533526b99ec4e7efdd8f2b96172f"), looks := false }, kinds := [], alts := [], laidByText := true, laidKinds := [.data, .data, .data], laidTests := true, laidLooks := .later }
def FnExactRoundLinesUptoCardSaid : Prop := Claim7.holds Tryd.pinned (.plain (OpenSpec.upto fnExactRoundLinesSpec)) fnExactRoundLinesUptoCard

/-- THE SECOND FORM's CARD OF 'laws.FnExactCupLine'. -/
def fnExactCupLineUptoCard : Claim7 := { stood := { row := fnExactCupLineUptoRow, standIns := [], harness := (true, "a6e8e4b77242bb99ec034f5991610b756a84533526b99ec4e7efdd8f2b96172f"), looks := false }, kinds := [], alts := [], laidByText := true, laidKinds := [.data, .data, .data], laidTests := true, laidLooks := .later }
def FnExactCupLineUptoCardSaid : Prop := Claim7.holds Tryd.pinned (.plain (OpenSpec.upto fnExactCupLineSpec)) fnExactCupLineUptoCard

/-- THE SECOND FORM's CARD OF 'laws.FnCups'. -/
def fnCupsUptoCard : Claim7 := { stood := { row := fnCupsUptoRow, standIns := [], harness := (true, "a6e8e4b77242bb99ec034f5991610b756a84533526b99ec4e7efdd8f2b96172f"), looks := false }, kinds := [], alts := [], laidByText := true, laidKinds := [.data, .data, .data], laidTests := true, laidLooks := .later }
def FnCupsUptoCardSaid : Prop := Claim7.holds Tryd.pinned (.plain (OpenSpec.upto fnCupsSpec)) fnCupsUptoCard
end Rows
end Go.Proofs.YtibmeomlokigjaaDoor
