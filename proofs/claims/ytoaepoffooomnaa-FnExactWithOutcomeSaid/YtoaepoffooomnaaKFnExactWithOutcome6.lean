/- A part of the proof of FnExactWithOutcome: functions of the program, as plain functions, with the proof that the machine's call does what they say; plain lemmas; and those of the words that print.sh prints which this proof uses. No condition. -/
import Derived.Test.YtoaepoffooomnaaKFnExactWithOutcome1
import Derived.Test.YtoaepoffooomnaaProg
import Derived.Below
import Derived.Deep.Draws
import Derived.Deep.AppendLies
import Derived.Maps.AppendAt
import Derived.OwnWalk
import Derived.Laws.BytesArg
import Derived.Laws.MakeOwn
import Derived.Laws.OwnMore
import Derived.Deep.OwnRows
import Derived.Tactics
import Derived.Lib.ConvBytes
import Derived.Laws.Slices
import Derived.WalkKit
import Derived.KernelRfl
import Derived.RowKit3
import Derived.Deep.LoopGhost
import Derived.Deep.QuietTactic
import Derived.BigQuiet
import Derived.WideLaws
import Derived.Deep.DeepCutAuto
import Derived.Deep.CutBlock
import Derived.Deep.RegionHeld3
import Derived.Laws.Rows
import Derived.Lib.AppendStr
import Derived.ArgAppend
import Derived.Laws.IdiomCopy
import Derived.OrdersHeld
import Derived.Laws.BitsLemmas
import Derived.RowKit
import Derived.WalkSpells
import Derived.Laws.StructEq
import Derived.Test.YtoaepoffooomnaaKFnExactWithOutcome2
import Derived.Test.YtoaepoffooomnaaKFnExactWithOutcome3
import Derived.Test.YtoaepoffooomnaaKFnExactWithOutcome4
import Derived.Test.YtoaepoffooomnaaKFnExactWithOutcome5
import Derived.Test.YtoaepoffooomnaaRows
import Derived.ProofKit
import Derived.OpenShut
import Derived.ShutString
import Derived.ChangeOld
import Derived.SizedLaws
section
namespace Go.Proofs.Ytoaepoffooomnaa.Q
open Go.RowKit Go.Proofs.YtoaepoffooomnaaW.PrintWords Go.Proofs.YtoaepoffooomnaaW.PrintLast Go.Proofs.YtoaepoffooomnaaW.PrintMore
attribute [local go_sem] max2_int min2_int max_two min_two max_three min_three max_four min_four
set_option linter.unusedVariables false
set_option linter.unusedSimpArgs false
mutual
def laws_FnExactWithOutcome.j0 : Nat → List Int → Bool → List Int → Bool → Bool → List (S84) → Int → Int → Int → List Int → Bool → List (S90) → List Int → List Int → List (S87) → Int → Int → Int → List Int → Bool → List (S75) → List Int → List Int → List (S87) → Int → Int → Int → List Int → Bool → List (S75) → List Int → List Int → List (S87) → Int → Int → Int → List Int → Bool → List (S75) → List Int → List Int → Option (Bool)
 | 0, _, _, _, _, _, _, _, _, _, _, _, _, _, _, _, _, _, _, _, _, _, _, _, _, _, _, _, _, _, _, _, _, _, _, _, _, _, _, _, _, _ => none
 | k + 1, x1, x7, x9, x11, x51, x538000, x538001, x538002, x538003, x538004, x538005, x538006, x538007, x538008, x582000, x582001, x582002, x582003, x582004, x582005, x582006, x582007, x582008, x602000, x602001, x602002, x602003, x602004, x602005, x602006, x602007, x602008, x626000, x626001, x626002, x626003, x626004, x626005, x626006, x626007, x626008 => if x51 = true then (some false) else ((laws_toBook.f k x538000 x538001 x538002 x538003 x538004 x538005 x538006 x538007 x538008).bind fun bt627 => ((laws_eqBook.f k x602000 x602001 x602002 x602003 x602004 x602005 x602006 x602007 x602008 bt627.1 bt627.2.1 bt627.2.2.1 bt627.2.2.2.1 bt627.2.2.2.2.1 bt627.2.2.2.2.2.1 bt627.2.2.2.2.2.2.1 bt627.2.2.2.2.2.2.2.1 bt627.2.2.2.2.2.2.2.2).bind fun t646 => (if t646 = true then ((laws_toIntS.f k x1).bind fun t647 => ((laws_eqIntS.f k x9 t647).bind fun t650 => (if t650 = true then ((laws_markBook.f k x602000 x602001 x602002 x602003 x602004 x602005 x602006 x602007 x602008 1).bind fun bt651 => ((laws_markIntS.f k x9 bt651.1).bind fun bt657 => (if bt657.1 < 0 then (laws_FnExactWithOutcome.j1 k x1 x7 true x538000 x538001 x538002 x538003 x538004 x538005 x538006 x538007 x538008 x582000 x582001 x582002 x582003 x582004 x582005 x582006 x582007 x582008 x626000 x626001 x626002 x626003 x626004 x626005 x626006 x626007 x626008) else ((laws_eqBook.f k x626000 x626001 x626002 x626003 x626004 x626005 x626006 x626007 x626008 x582000 x582001 x582002 x582003 x582004 x582005 x582006 x582007 x582008).bind fun t659 => (if t659 = true then (laws_FnExactWithOutcome.j1 k x1 x7 (x11 != x7) x538000 x538001 x538002 x538003 x538004 x538005 x538006 x538007 x538008 x582000 x582001 x582002 x582003 x582004 x582005 x582006 x582007 x582008 x626000 x626001 x626002 x626003 x626004 x626005 x626006 x626007 x626008) else (laws_FnExactWithOutcome.j1 k x1 x7 true x538000 x538001 x538002 x538003 x538004 x538005 x538006 x538007 x538008 x582000 x582001 x582002 x582003 x582004 x582005 x582006 x582007 x582008 x626000 x626001 x626002 x626003 x626004 x626005 x626006 x626007 x626008)))))) else (some false)))) else (some false))))
def laws_FnExactWithOutcome.j1 : Nat → List Int → Bool → Bool → List (S84) → Int → Int → Int → List Int → Bool → List (S90) → List Int → List Int → List (S87) → Int → Int → Int → List Int → Bool → List (S75) → List Int → List Int → List (S87) → Int → Int → Int → List Int → Bool → List (S75) → List Int → List Int → Option (Bool)
 | 0, _, _, _, _, _, _, _, _, _, _, _, _, _, _, _, _, _, _, _, _, _, _, _, _, _, _, _, _, _, _ => none
 | k + 1, x1, x7, x80, x538000, x538001, x538002, x538003, x538004, x538005, x538006, x538007, x538008, x582000, x582001, x582002, x582003, x582004, x582005, x582006, x582007, x582008, x626000, x626001, x626002, x626003, x626004, x626005, x626006, x626007, x626008 => if x80 = true then (some false) else ((laws_markBook.f k x626000 x626001 x626002 x626003 x626004 x626005 x626006 x626007 x626008 1).bind fun bt660 => ((laws_heldBook.f k bt660.2.1 x626001 x626002 x626003 bt660.2.2.1 x626005 bt660.2.2.2.1 bt660.2.2.2.2.1 bt660.2.2.2.2.2 1).bind fun t666 => (if t666 < 0 then (some false) else (if t666 = bt660.1 then ((laws_toBook.f k x538000 x538001 x538002 x538003 x538004 x538005 x538006 x538007 x538008).bind fun bt667 => ((laws_toIntS.f k x1).bind fun t686 => ((impl_WithOutcome.f k bt667.1 bt667.2.1 bt667.2.2.1 bt667.2.2.2.1 bt667.2.2.2.2.1 bt667.2.2.2.2.2.1 bt667.2.2.2.2.2.2.1 bt667.2.2.2.2.2.2.2.1 bt667.2.2.2.2.2.2.2.2 t686).bind fun bt689 => ((laws_eqBook.f k bt689.1 bt689.2.1 bt689.2.2.1 bt689.2.2.2.1 bt689.2.2.2.2.1 bt689.2.2.2.2.2.1 bt689.2.2.2.2.2.2.1 bt689.2.2.2.2.2.2.2.1 bt689.2.2.2.2.2.2.2.2.1 x582000 x582001 x582002 x582003 x582004 x582005 x582006 x582007 x582008).bind fun t710 => (if t710 = true then (laws_FnExactWithOutcome.j2 k bt660.1 (bt689.2.2.2.2.2.2.2.2.2 != x7) bt660.2.1 x626001 x626002 x626003 bt660.2.2.1 x626005 bt660.2.2.2.1 bt660.2.2.2.2.1 bt660.2.2.2.2.2) else (laws_FnExactWithOutcome.j2 k bt660.1 true bt660.2.1 x626001 x626002 x626003 bt660.2.2.1 x626005 bt660.2.2.2.1 bt660.2.2.2.2.1 bt660.2.2.2.2.2)))))) else (some false)))))
def laws_FnExactWithOutcome.j2 : Nat → Int → Bool → List (S87) → Int → Int → Int → List Int → Bool → List (S75) → List Int → List Int → Option (Bool)
 | 0, _, _, _, _, _, _, _, _, _, _, _ => none
 | k + 1, x13, x108, x626000, x626001, x626002, x626003, x626004, x626005, x626006, x626007, x626008 => if x108 = true then (some false) else ((laws_heldBook.f k x626000 x626001 x626002 x626003 x626004 x626005 x626006 x626007 x626008 1).bind fun t711 => (if t711 < 0 then (some false) else (if t711 = x13 then (some true) else (some false))))
end
def laws_FnExactWithOutcome.f (k : Nat) (l0_0 : List (S84)) (a0_1 : Int) (a0_2 : Int) (a0_3 : Int) (l0_4 : List Int) (a0_5 : Bool) (l0_6 : List (S90)) (l0_7 : List Int) (l0_8 : List Int) (l1 : List Int) : Option (Bool) := if (l1.length : Int) > 1048576 then (some true) else ((laws_szBook.f k l0_0 a0_1 a0_2 a0_3 l0_4 a0_5 l0_6 l0_7 l0_8 1048576).bind fun t538 => (if t538 < 0 then (some true) else ((laws_toBook.f k l0_0 a0_1 a0_2 a0_3 l0_4 a0_5 l0_6 l0_7 l0_8).bind fun bt539 => ((laws_toIntS.f k l1).bind fun t558 => ((spec_WithOutcome.f k bt539.1 bt539.2.1 bt539.2.2.1 bt539.2.2.2.1 bt539.2.2.2.2.1 bt539.2.2.2.2.2.1 bt539.2.2.2.2.2.2.1 bt539.2.2.2.2.2.2.2.1 bt539.2.2.2.2.2.2.2.2 t558).bind fun bt561 => ((laws_toBook.f k l0_0 a0_1 a0_2 a0_3 l0_4 a0_5 l0_6 l0_7 l0_8).bind fun bt582 => ((laws_toIntS.f k l1).bind fun t602 => ((impl_WithOutcome.f k bt582.1 bt582.2.1 bt582.2.2.1 bt582.2.2.2.1 bt582.2.2.2.2.1 bt582.2.2.2.2.2.1 bt582.2.2.2.2.2.2.1 bt582.2.2.2.2.2.2.2.1 bt582.2.2.2.2.2.2.2.2 t602).bind fun bt605 => ((laws_eqBook.f k bt605.1 bt605.2.1 bt605.2.2.1 bt605.2.2.2.1 bt605.2.2.2.2.1 bt605.2.2.2.2.2.1 bt605.2.2.2.2.2.2.1 bt605.2.2.2.2.2.2.2.1 bt605.2.2.2.2.2.2.2.2.1 bt561.1 bt561.2.1 bt561.2.2.1 bt561.2.2.2.1 bt561.2.2.2.2.1 bt561.2.2.2.2.2.1 bt561.2.2.2.2.2.2.1 bt561.2.2.2.2.2.2.2.1 bt561.2.2.2.2.2.2.2.2.1).bind fun t626 => (if t626 = true then (laws_FnExactWithOutcome.j0 k l1 bt561.2.2.2.2.2.2.2.2.2 t602 bt605.2.2.2.2.2.2.2.2.2 (bt605.2.2.2.2.2.2.2.2.2 != bt561.2.2.2.2.2.2.2.2.2) l0_0 a0_1 a0_2 a0_3 l0_4 a0_5 l0_6 l0_7 l0_8 bt561.1 bt561.2.1 bt561.2.2.1 bt561.2.2.2.1 bt561.2.2.2.2.1 bt561.2.2.2.2.2.1 bt561.2.2.2.2.2.2.1 bt561.2.2.2.2.2.2.2.1 bt561.2.2.2.2.2.2.2.2.1 bt582.1 bt582.2.1 bt582.2.2.1 bt582.2.2.2.1 bt582.2.2.2.2.1 bt582.2.2.2.2.2.1 bt582.2.2.2.2.2.2.1 bt582.2.2.2.2.2.2.2.1 bt582.2.2.2.2.2.2.2.2 bt605.1 bt605.2.1 bt605.2.2.1 bt605.2.2.2.1 bt605.2.2.2.2.1 bt605.2.2.2.2.2.1 bt605.2.2.2.2.2.2.1 bt605.2.2.2.2.2.2.2.1 bt605.2.2.2.2.2.2.2.2.1) else (laws_FnExactWithOutcome.j0 k l1 bt561.2.2.2.2.2.2.2.2.2 t602 bt605.2.2.2.2.2.2.2.2.2 true l0_0 a0_1 a0_2 a0_3 l0_4 a0_5 l0_6 l0_7 l0_8 bt561.1 bt561.2.1 bt561.2.2.1 bt561.2.2.2.1 bt561.2.2.2.2.1 bt561.2.2.2.2.2.1 bt561.2.2.2.2.2.2.1 bt561.2.2.2.2.2.2.2.1 bt561.2.2.2.2.2.2.2.2.1 bt582.1 bt582.2.1 bt582.2.2.1 bt582.2.2.2.1 bt582.2.2.2.2.1 bt582.2.2.2.2.2.1 bt582.2.2.2.2.2.2.1 bt582.2.2.2.2.2.2.2.1 bt582.2.2.2.2.2.2.2.2 bt605.1 bt605.2.1 bt605.2.2.1 bt605.2.2.2.1 bt605.2.2.2.2.1 bt605.2.2.2.2.2.1 bt605.2.2.2.2.2.2.1 bt605.2.2.2.2.2.2.2.1 bt605.2.2.2.2.2.2.2.2.1)))))))))))
set_option maxHeartbeats 8000000 in
set_option maxRecDepth 100000 in
theorem laws_FnExactWithOutcome.calls (k : Nat) (A0_0 : Option Addr) (c0_0 : Nat) (l0_0 : List (S84)) (a0_1 : Int) (a0_2 : Int) (a0_3 : Int) (A0_4 : Option Addr) (c0_4 : Nat) (l0_4 : List Int) (a0_5 : Bool) (A0_6 : Option Addr) (c0_6 : Nat) (l0_6 : List (S90)) (A0_7 : Option Addr) (c0_7 : Nat) (l0_7 : List Int) (A0_8 : Option Addr) (c0_8 : Nat) (l0_8 : List Int) (A1 : Option Addr) (c1 : Nat) (l1 : List Int) (r : Bool) (w : World) (hr0_0 : Kd.C k84 w A0_0 l0_0.length l0_0) (hc0_0 : l0_0.length ≤ c0_0) (hr0_4 : Kd.C (Kd.int .i64) w A0_4 l0_4.length l0_4) (hc0_4 : l0_4.length ≤ c0_4) (hr0_6 : Kd.C k90 w A0_6 l0_6.length l0_6) (hc0_6 : l0_6.length ≤ c0_6) (hr0_7 : Kd.C (Kd.int .i64) w A0_7 l0_7.length l0_7) (hc0_7 : l0_7.length ≤ c0_7) (hr0_8 : Kd.C (Kd.int .i64) w A0_8 l0_8.length l0_8) (hc0_8 : l0_8.length ≤ c0_8) (hr1 : Kd.C (Kd.int .i64) w A1 l1.length l1) (hc1 : l1.length ≤ c1) (h : laws_FnExactWithOutcome.f k l0_0 a0_1 a0_2 a0_3 l0_4 a0_5 l0_6 l0_7 l0_8 l1 = some r) :
  Calls Try.prog 3 #[.agg #[.slice A0_0 l0_0.length c0_0, .int .i64 a0_1, .int .i64 a0_2, .int .i64 a0_3, .slice A0_4 l0_4.length c0_4, .bool a0_5, .slice A0_6 l0_6.length c0_6, .slice A0_7 l0_7.length c0_7, .slice A0_8 l0_8.length c0_8], .slice A1 l1.length c1] w fun e w' => e = .returned (.bool r) ∧ Below w.heap.size w w' := by
 have hu28 := Try.underlying28
 have hu34 := Try.underlying34
 have HR0_0 := Aside0.mk hr0_0
 have HC0_0 := Aside0.mk hc0_0
 clear hr0_0 hc0_0
 have HR0_4 := Aside0.mk hr0_4
 have HC0_4 := Aside0.mk hc0_4
 clear hr0_4 hc0_4
 have HR0_6 := Aside0.mk hr0_6
 have HC0_6 := Aside0.mk hc0_6
 clear hr0_6 hc0_6
 have HR0_7 := Aside0.mk hr0_7
 have HC0_7 := Aside0.mk hc0_7
 clear hr0_7 hc0_7
 have HR0_8 := Aside0.mk hr0_8
 have HC0_8 := Aside0.mk hc0_8
 clear hr0_8 hc0_8
 have HR1 := Aside0.mk hr1
 have HC1 := Aside0.mk hc1
 clear hr1 hc1
 have HB := Aside0.mk (Below.refl w.heap.size w)
 have H : (if (l1.length : Int) > 1048576 then (some true) else ((laws_szBook.f k l0_0 a0_1 a0_2 a0_3 l0_4 a0_5 l0_6 l0_7 l0_8 1048576).bind fun t538 => (if t538 < 0 then (some true) else ((laws_toBook.f k l0_0 a0_1 a0_2 a0_3 l0_4 a0_5 l0_6 l0_7 l0_8).bind fun bt539 => ((laws_toIntS.f k l1).bind fun t558 => ((spec_WithOutcome.f k bt539.1 bt539.2.1 bt539.2.2.1 bt539.2.2.2.1 bt539.2.2.2.2.1 bt539.2.2.2.2.2.1 bt539.2.2.2.2.2.2.1 bt539.2.2.2.2.2.2.2.1 bt539.2.2.2.2.2.2.2.2 t558).bind fun bt561 => ((laws_toBook.f k l0_0 a0_1 a0_2 a0_3 l0_4 a0_5 l0_6 l0_7 l0_8).bind fun bt582 => ((laws_toIntS.f k l1).bind fun t602 => ((impl_WithOutcome.f k bt582.1 bt582.2.1 bt582.2.2.1 bt582.2.2.2.1 bt582.2.2.2.2.1 bt582.2.2.2.2.2.1 bt582.2.2.2.2.2.2.1 bt582.2.2.2.2.2.2.2.1 bt582.2.2.2.2.2.2.2.2 t602).bind fun bt605 => ((laws_eqBook.f k bt605.1 bt605.2.1 bt605.2.2.1 bt605.2.2.2.1 bt605.2.2.2.2.1 bt605.2.2.2.2.2.1 bt605.2.2.2.2.2.2.1 bt605.2.2.2.2.2.2.2.1 bt605.2.2.2.2.2.2.2.2.1 bt561.1 bt561.2.1 bt561.2.2.1 bt561.2.2.2.1 bt561.2.2.2.2.1 bt561.2.2.2.2.2.1 bt561.2.2.2.2.2.2.1 bt561.2.2.2.2.2.2.2.1 bt561.2.2.2.2.2.2.2.2.1).bind fun t626 => (if t626 = true then (laws_FnExactWithOutcome.j0 k l1 bt561.2.2.2.2.2.2.2.2.2 t602 bt605.2.2.2.2.2.2.2.2.2 (bt605.2.2.2.2.2.2.2.2.2 != bt561.2.2.2.2.2.2.2.2.2) l0_0 a0_1 a0_2 a0_3 l0_4 a0_5 l0_6 l0_7 l0_8 bt561.1 bt561.2.1 bt561.2.2.1 bt561.2.2.2.1 bt561.2.2.2.2.1 bt561.2.2.2.2.2.1 bt561.2.2.2.2.2.2.1 bt561.2.2.2.2.2.2.2.1 bt561.2.2.2.2.2.2.2.2.1 bt582.1 bt582.2.1 bt582.2.2.1 bt582.2.2.2.1 bt582.2.2.2.2.1 bt582.2.2.2.2.2.1 bt582.2.2.2.2.2.2.1 bt582.2.2.2.2.2.2.2.1 bt582.2.2.2.2.2.2.2.2 bt605.1 bt605.2.1 bt605.2.2.1 bt605.2.2.2.1 bt605.2.2.2.2.1 bt605.2.2.2.2.2.1 bt605.2.2.2.2.2.2.1 bt605.2.2.2.2.2.2.2.1 bt605.2.2.2.2.2.2.2.2.1) else (laws_FnExactWithOutcome.j0 k l1 bt561.2.2.2.2.2.2.2.2.2 t602 bt605.2.2.2.2.2.2.2.2.2 true l0_0 a0_1 a0_2 a0_3 l0_4 a0_5 l0_6 l0_7 l0_8 bt561.1 bt561.2.1 bt561.2.2.1 bt561.2.2.2.1 bt561.2.2.2.2.1 bt561.2.2.2.2.2.1 bt561.2.2.2.2.2.2.1 bt561.2.2.2.2.2.2.2.1 bt561.2.2.2.2.2.2.2.2.1 bt582.1 bt582.2.1 bt582.2.2.1 bt582.2.2.2.1 bt582.2.2.2.2.1 bt582.2.2.2.2.2.1 bt582.2.2.2.2.2.2.1 bt582.2.2.2.2.2.2.2.1 bt582.2.2.2.2.2.2.2.2 bt605.1 bt605.2.1 bt605.2.2.1 bt605.2.2.2.1 bt605.2.2.2.2.1 bt605.2.2.2.2.2.1 bt605.2.2.2.2.2.2.1 bt605.2.2.2.2.2.2.2.1 bt605.2.2.2.2.2.2.2.2.1)))))))))))) = some r := h
 clear h
 have HC3 := Aside0.mk H
 clear H
 go_enter Try.func3, Try.ntmps3
 go_upto_if 19 with (first | ((with_reducible refine gate_dst (N := 2) rfl ?_); refine bx (N := 2) (cs := #[.slice A0_0 l0_0.length c0_0, .int .i64 a0_1, .int .i64 a0_2, .int .i64 a0_3, .slice A0_4 l0_4.length c0_4, .bool a0_5, .slice A0_6 l0_6.length c0_6, .slice A0_7 l0_7.length c0_7, .slice A0_8 l0_8.length c0_8]) (t := 28) ?_; intro gb537 hg w4 hbox hb; have BK537 := Aside0.mk (hbox); have GW537 := gs hg HB; have GE537 := gs hg HB; replace HB := hs_ HB hb; clear hb hbox hg))
 (try simp only [Act.put, List.setIfInBounds_toArray, List.set_cons_zero, List.set_cons_succ])
 have H := HC3.out
 clear HC3
 by_cases c5 : (l1.length : Int) > 1048576
 ·rw [if_pos c5] at H
  have c5b0 : decide (1048576 < (l1.length : Int)) = true := decide_eq_true c5
  have c5b1 : decide (1048576 < l1.length) = true := decide_eq_true (by omega)
  clear c5
  (first | rw [c5b0] | rw [c5b1] | (simp only [i64_w, i32_w]; rw [c5b0]) | skip)
  obtain rfl := Option.some.inj H
  go_wp2
  go_ret
  exact ⟨ee, bb HB⟩
 ·rw [if_neg c5] at H
  have c5b0 : decide (1048576 < (l1.length : Int)) = false := decide_eq_false c5
  have c5b1 : decide (1048576 < l1.length) = false := decide_eq_false (by omega)
  clear c5
  (first | rw [c5b0] | rw [c5b1] | (simp only [i64_w, i32_w]; rw [c5b0]) | skip)
  replace H := Option.bind_eq_some_iff.mp H
  obtain ⟨t538, A60, H⟩ := H
  try dsimp only at H
  have A6 := Aside0.mk A60
  clear A60
  have HC7 := Aside0.mk H
  clear H
  have ⟨hcz8_0, hcz8_1, hcz8_2, hcz8_3, hcz8_4, hcz8_5, hcz8_6, hcz8_7, hcz8_8, hfz8_0, hfz8_1, hfz8_2, hfz8_3, hfz8_4, hfz8_5, hfz8_6, hfz8_7, hfz8_8⟩ := rz9 BK537
  go_upto_if 24 with (first | ((with_reducible refine gate_callee (f := 6) rfl ?_); refine gl (some 22) Try.func6 #[.agg #[.slice A0_0 l0_0.length c0_0, .int .i64 a0_1, .int .i64 a0_2, .int .i64 a0_3, .slice A0_4 l0_4.length c0_4, .bool a0_5, .slice A0_6 l0_6.length c0_6, .slice A0_7 l0_7.length c0_7, .slice A0_8 l0_8.length c0_8], .int .i64 1048576] ?_; (with_reducible refine (laws_szBook.calls k _ _ l0_0 a0_1 a0_2 a0_3 _ _ l0_4 a0_5 _ _ l0_6 _ _ l0_7 _ _ l0_8 1048576 t538 _ ?side1 ?side2 ?side3 ?side4 ?side5 ?side6 ?side7 ?side8 ?side9 ?side10 A6.out).mono ?_); (case side1 => exact cc HR0_0 HB); (case side2 => exact HC0_0.out); (case side3 => exact cc HR0_4 HB); (case side4 => exact HC0_4.out); (case side5 => exact cc HR0_6 HB); (case side6 => exact HC0_6.out); (case side7 => exact cc HR0_7 HB); (case side8 => exact HC0_7.out); (case side9 => exact cc HR0_8 HB); (case side10 => exact HC0_8.out); rintro e w9 ⟨rfl, hb⟩; refine ⟨_, rfl, ?_⟩; replace BK537 := kb BK537 hb; replace HB := hs_ HB hb; (try clear hb hb2 hk hi)))
  (try simp only [Act.put, List.setIfInBounds_toArray, List.set_cons_zero, List.set_cons_succ])
  have H := HC7.out
  clear HC7
  by_cases c10 : t538 < 0
  ·rw [if_pos c10] at H
   have c10b0 : decide (t538 < 0) = true := decide_eq_true c10
   clear c10
   (first | rw [c10b0] | rw [c10b1] | (simp only [i64_w, i32_w]; rw [c10b0]) | skip)
   obtain rfl := Option.some.inj H
   go_wp2
   go_ret
   exact ⟨ee, bb HB⟩
  ·rw [if_neg c10] at H
   have c10b0 : decide (t538 < 0) = false := decide_eq_false c10
   clear c10
   (first | rw [c10b0] | rw [c10b1] | (simp only [i64_w, i32_w]; rw [c10b0]) | skip)
   replace H := Option.bind_eq_some_iff.mp H
   obtain ⟨⟨t539, t542, t543, t544, t545, t548, t549, t552, t555⟩, A110, H⟩ := H
   try dsimp only at H
   have A11 := Aside0.mk A110
   clear A110
   replace H := Option.bind_eq_some_iff.mp H
   obtain ⟨t558, A120, H⟩ := H
   try dsimp only at H
   have A12 := Aside0.mk A120
   clear A120
   replace H := Option.bind_eq_some_iff.mp H
   obtain ⟨⟨t561, t564, t565, t566, t567, t570, t571, t574, t577, t580⟩, A130, H⟩ := H
   try dsimp only at H
   have A13 := Aside0.mk A130
   clear A130
   replace H := Option.bind_eq_some_iff.mp H
   obtain ⟨⟨t582, t585, t586, t587, t588, t591, t592, t595, t598⟩, A140, H⟩ := H
   try dsimp only at H
   have A14 := Aside0.mk A140
   clear A140
   replace H := Option.bind_eq_some_iff.mp H
   obtain ⟨t602, A150, H⟩ := H
   try dsimp only at H
   have A15 := Aside0.mk A150
   clear A150
   replace H := Option.bind_eq_some_iff.mp H
   obtain ⟨⟨t605, t608, t609, t610, t611, t614, t615, t618, t621, t624⟩, A160, H⟩ := H
   try dsimp only at H
   have A16 := Aside0.mk A160
   clear A160
   have HC17 := Aside0.mk H
   clear H
   have ⟨hcz18_0, hcz18_1, hcz18_2, hcz18_3, hcz18_4, hcz18_5, hcz18_6, hcz18_7, hcz18_8, hfz18_0, hfz18_1, hfz18_2, hfz18_3, hfz18_4, hfz18_5, hfz18_6, hfz18_7, hfz18_8⟩ := rz9 BK537
   go_upto_region 11 with (first | ((with_reducible refine gate_callee (f := 8) rfl ?_); refine gl (some 27) Try.func8 #[.agg #[.slice A0_0 l0_0.length c0_0, .int .i64 a0_1, .int .i64 a0_2, .int .i64 a0_3, .slice A0_4 l0_4.length c0_4, .bool a0_5, .slice A0_6 l0_6.length c0_6, .slice A0_7 l0_7.length c0_7, .slice A0_8 l0_8.length c0_8]] ?_; (with_reducible refine (laws_toBook.calls k _ _ l0_0 a0_1 a0_2 a0_3 _ _ l0_4 a0_5 _ _ l0_6 _ _ l0_7 _ _ l0_8 t539 t542 t543 t544 t545 t548 t549 t552 t555 _ ?side1 ?side2 ?side3 ?side4 ?side5 ?side6 ?side7 ?side8 ?side9 ?side10 A11.out).mono ?_); (case side1 => exact cc HR0_0 HB); (case side2 => exact HC0_0.out); (case side3 => exact cc HR0_4 HB); (case side4 => exact HC0_4.out); (case side5 => exact cc HR0_6 HB); (case side6 => exact HC0_6.out); (case side7 => exact cc HR0_7 HB); (case side8 => exact HC0_7.out); (case side9 => exact cc HR0_8 HB); (case side10 => exact HC0_8.out); rintro e w19 ⟨v540, v546, v550, v553, v556, rfl, ho0, ho1, ho2, ho3, ho4, hb⟩; refine ⟨_, rfl, ?_⟩; have HO541 := kl ho0 HB; have HO547 := kl ho1 HB; have HO551 := kl ho2 HB; have HO554 := kl ho3 HB; have HO557 := kl ho4 HB; replace BK537 := kb BK537 hb; replace HB := hs_ HB hb; (try clear hb hb2 hk hi ho0 ho1 ho2 ho3 ho4)) | ((with_reducible refine gate_callee (f := 9) rfl ?_); refine gl (some 29) Try.func9 #[.slice A1 l1.length c1] ?_; (with_reducible refine (laws_toIntS.calls k _ _ l1 t558 _ ?side1 ?side2 A12.out).mono ?_); (case side1 => exact cc HR1 HB); (case side2 => exact HC1.out); rintro e w20 ⟨v559, rfl, ho0, hb⟩; refine ⟨_, rfl, ?_⟩; replace HO541 := kr HO541 hb; replace HO551 := kr HO551 hb; have HO560 := Aside0.mk (Kd.R_lower (Kd.R_new' (Kd.R_new' (Kd.R_new' ho0 (rt HO547)) (rt HO554)) (rt HO557)) (below_size (bb HB))); replace HO547 := ke HO547 ho0 hb; replace HO554 := ke HO554 ho0 hb; replace HO557 := ke HO557 ho0 hb; replace BK537 := kb BK537 hb; replace HB := hs_ HB hb; (try clear hb hb2 hk hi ho0); obtain ⟨Ao21, co21, eo21⟩ := Kd.R_slice HO541.out; subst eo21; obtain ⟨Ao22, co22, eo22⟩ := Kd.R_slice HO547.out; subst eo22; obtain ⟨Ao23, co23, eo23⟩ := Kd.R_slice HO551.out; subst eo23; obtain ⟨Ao24, co24, eo24⟩ := Kd.R_slice HO554.out; subst eo24; obtain ⟨Ao25, co25, eo25⟩ := Kd.R_slice HO557.out; subst eo25; obtain ⟨Ao26, co26, eo26⟩ := Kd.R_slice HO560.out; subst eo26) | ((with_reducible refine gate_callee (f := 7) rfl ?_); refine gl (some 30) Try.func7 #[.agg #[.slice Ao21 t539.length co21, .int .i64 t542, .int .i64 t543, .int .i64 t544, .slice Ao22 t545.length co22, .bool t548, .slice Ao23 t549.length co23, .slice Ao24 t552.length co24, .slice Ao25 t555.length co25], .slice Ao26 t558.length co26] ?_; (with_reducible refine (spec_WithOutcome.calls k _ _ t539 t542 t543 t544 _ _ t545 t548 _ _ t549 _ _ t552 _ _ t555 _ _ t558 t561 t564 t565 t566 t567 t570 t571 t574 t577 t580 _ ?side1 ?side2 ?side3 ?side4 ?side5 ?side6 ?side7 ?side8 ?side9 ?side10 ?side11 ?side12 A13.out).mono ?_); (case side1 => exact cr HO541); (case side2 => exact cl HO541); (case side3 => exact cr HO547); (case side4 => exact cl HO547); (case side5 => exact cr HO551); (case side6 => exact cl HO551); (case side7 => exact cr HO554); (case side8 => exact cl HO554); (case side9 => exact cr HO557); (case side10 => exact cl HO557); (case side11 => exact cr HO560); (case side12 => exact cl HO560); rintro e w27 ⟨v562, v568, v572, v575, v578, rfl, ho0, ho1, ho2, ho3, ho4, hb⟩; refine ⟨_, rfl, ?_⟩; have HO563 := Aside0.mk (Kd.R_lower (Kd.R_new' ho0 (rt HO541)) (below_size (bb HB))); replace HO541 := ke HO541 ho0 hb; have HO569 := Aside0.mk (Kd.R_lower (Kd.R_new' (Kd.R_new' (Kd.R_new' (Kd.R_new' ho1 (rt HO547)) (rt HO554)) (rt HO557)) (rt HO560)) (below_size (bb HB))); have HO573 := Aside0.mk (Kd.R_lower (Kd.R_new' ho2 (rt HO551)) (below_size (bb HB))); replace HO551 := ke HO551 ho2 hb; have HO576 := Aside0.mk (Kd.R_lower (Kd.R_new' (Kd.R_new' (Kd.R_new' (Kd.R_new' ho3 (rt HO547)) (rt HO554)) (rt HO557)) (rt HO560)) (below_size (bb HB))); have HO579 := Aside0.mk (Kd.R_lower (Kd.R_new' (Kd.R_new' (Kd.R_new' (Kd.R_new' ho4 (rt HO547)) (rt HO554)) (rt HO557)) (rt HO560)) (below_size (bb HB))); replace HO547 := Aside0.mk (Kd.R_mono (Kd.R_told (Kd.R_told (Kd.R_told (Kd.R_old (rr HO547) hb) (Kd.R_base ho1)) (Kd.R_base ho3)) (Kd.R_base ho4)) (fun _ h_ => h_.1)); replace HO554 := Aside0.mk (Kd.R_mono (Kd.R_told (Kd.R_told (Kd.R_told (Kd.R_old (rr HO554) hb) (Kd.R_base ho1)) (Kd.R_base ho3)) (Kd.R_base ho4)) (fun _ h_ => h_.1)); replace HO557 := Aside0.mk (Kd.R_mono (Kd.R_told (Kd.R_told (Kd.R_told (Kd.R_old (rr HO557) hb) (Kd.R_base ho1)) (Kd.R_base ho3)) (Kd.R_base ho4)) (fun _ h_ => h_.1)); replace HO560 := Aside0.mk (Kd.R_mono (Kd.R_told (Kd.R_told (Kd.R_told (Kd.R_old (rr HO560) hb) (Kd.R_base ho1)) (Kd.R_base ho3)) (Kd.R_base ho4)) (fun _ h_ => h_.1)); replace BK537 := kb BK537 hb; replace HB := hs_ HB hb; (try clear hb hb2 hk hi ho0 ho1 ho2 ho3 ho4)) | ((with_reducible refine gate_dst (N := 6) rfl ?_); refine bx (N := 6) (cs := #[.slice none 0 0, .int .i64 0, .int .i64 0, .int .i64 0, .slice none 0 0, .bool false, .slice none 0 0, .slice none 0 0, .slice none 0 0]) (t := 34) ?_; intro gb581 hg w28 hbox hb; replace HO541 := kr HO541 hb; replace HO547 := kr HO547 hb; replace HO551 := kr HO551 hb; replace HO554 := kr HO554 hb; replace HO557 := kr HO557 hb; replace HO560 := kr HO560 hb; replace HO563 := kr HO563 hb; replace HO569 := kr HO569 hb; replace HO573 := kr HO573 hb; replace HO576 := kr HO576 hb; replace HO579 := kr HO579 hb; have BK581 := Aside0.mk (hbox); have GW581 := gs hg HB; have GE581 := gs hg HB; replace HB := hs_ HB hb; have NB537_581 := gn hg BK537; have NB581_537 := gm hg BK537; replace BK537 := kb BK537 hb; clear hb hbox hg; obtain ⟨Ao29, co29, eo29⟩ := Kd.R_slice HO563.out; subst eo29; have hnb30 := NB581_537.out; have hnc30 := NB537_581.out; have ⟨hcz31_0, hcz31_1, hcz31_2, hcz31_3, hcz31_4, hcz31_5, hcz31_6, hcz31_7, hcz31_8, hfz31_0, hfz31_1, hfz31_2, hfz31_3, hfz31_4, hfz31_5, hfz31_6, hfz31_7, hfz31_8⟩ := rz9 BK581; obtain ⟨Ao32, co32, eo32⟩ := Kd.R_slice HO569.out; subst eo32; obtain ⟨Ao33, co33, eo33⟩ := Kd.R_slice HO573.out; subst eo33; obtain ⟨Ao34, co34, eo34⟩ := Kd.R_slice HO576.out; subst eo34; obtain ⟨Ao35, co35, eo35⟩ := Kd.R_slice HO579.out; subst eo35; have ⟨hcz36_0, hcz36_1, hcz36_2, hcz36_3, hcz36_4, hcz36_5, hcz36_6, hcz36_7, hcz36_8, hfz36_0, hfz36_1, hfz36_2, hfz36_3, hfz36_4, hfz36_5, hfz36_6, hfz36_7, hfz36_8⟩ := rz9 BK537) | ((with_reducible refine gate_callee (f := 8) rfl ?_); refine gl (some 34) Try.func8 #[.agg #[.slice A0_0 l0_0.length c0_0, .int .i64 a0_1, .int .i64 a0_2, .int .i64 a0_3, .slice A0_4 l0_4.length c0_4, .bool a0_5, .slice A0_6 l0_6.length c0_6, .slice A0_7 l0_7.length c0_7, .slice A0_8 l0_8.length c0_8]] ?_; (with_reducible refine (laws_toBook.calls k _ _ l0_0 a0_1 a0_2 a0_3 _ _ l0_4 a0_5 _ _ l0_6 _ _ l0_7 _ _ l0_8 t582 t585 t586 t587 t588 t591 t592 t595 t598 _ ?side1 ?side2 ?side3 ?side4 ?side5 ?side6 ?side7 ?side8 ?side9 ?side10 A14.out).mono ?_); (case side1 => exact Kd.C_below HR0_0.out (bb HB)); (case side2 => exact HC0_0.out); (case side3 => exact Kd.C_below HR0_4.out (bb HB)); (case side4 => exact HC0_4.out); (case side5 => exact Kd.C_below HR0_6.out (bb HB)); (case side6 => exact HC0_6.out); (case side7 => exact Kd.C_below HR0_7.out (bb HB)); (case side8 => exact HC0_7.out); (case side9 => exact Kd.C_below HR0_8.out (bb HB)); (case side10 => exact HC0_8.out); rintro e w37 ⟨v583, v589, v593, v596, v599, rfl, ho0, ho1, ho2, ho3, ho4, hb⟩; refine ⟨_, rfl, ?_⟩; have HO584 := Aside0.mk (Kd.R_lower (Kd.R_new' (Kd.R_new' ho0 (Kd.R_lt (rf HO541 BK581 (fun _ h_ => h_.1)))) (Kd.R_lt (rf HO563 BK581 (fun _ h_ => h_.1)))) (below_size (bb HB))); replace HO541 := Aside0.mk (Kd.R_elder' (rf HO541 BK581 (fun _ h_ => h_.1)) (Kd.R_base ho0) hb); replace HO563 := Aside0.mk (Kd.R_elder' (rf HO563 BK581 (fun _ h_ => h_.1)) (Kd.R_base ho0) hb); have HO590 := Aside0.mk (Kd.R_lower (Kd.R_new' (Kd.R_new' (Kd.R_new' (Kd.R_new' (Kd.R_new' (Kd.R_new' (Kd.R_new' ho1 (Kd.R_lt (rf HO547 BK581 (fun _ h_ => h_.1)))) (Kd.R_lt (rf HO554 BK581 (fun _ h_ => h_.1)))) (Kd.R_lt (rf HO557 BK581 (fun _ h_ => h_.1)))) (Kd.R_lt (rf HO560 BK581 (fun _ h_ => h_.1)))) (Kd.R_lt (rf HO569 BK581 (fun _ h_ => h_.1)))) (Kd.R_lt (rf HO576 BK581 (fun _ h_ => h_.1)))) (Kd.R_lt (rf HO579 BK581 (fun _ h_ => h_.1)))) (below_size (bb HB))); have HO594 := Aside0.mk (Kd.R_lower (Kd.R_new' (Kd.R_new' ho2 (Kd.R_lt (rf HO551 BK581 (fun _ h_ => h_.1)))) (Kd.R_lt (rf HO573 BK581 (fun _ h_ => h_.1)))) (below_size (bb HB))); replace HO551 := Aside0.mk (Kd.R_elder' (rf HO551 BK581 (fun _ h_ => h_.1)) (Kd.R_base ho2) hb); replace HO573 := Aside0.mk (Kd.R_elder' (rf HO573 BK581 (fun _ h_ => h_.1)) (Kd.R_base ho2) hb); have HO597 := Aside0.mk (Kd.R_lower (Kd.R_new' (Kd.R_new' (Kd.R_new' (Kd.R_new' (Kd.R_new' (Kd.R_new' (Kd.R_new' ho3 (Kd.R_lt (rf HO547 BK581 (fun _ h_ => h_.1)))) (Kd.R_lt (rf HO554 BK581 (fun _ h_ => h_.1)))) (Kd.R_lt (rf HO557 BK581 (fun _ h_ => h_.1)))) (Kd.R_lt (rf HO560 BK581 (fun _ h_ => h_.1)))) (Kd.R_lt (rf HO569 BK581 (fun _ h_ => h_.1)))) (Kd.R_lt (rf HO576 BK581 (fun _ h_ => h_.1)))) (Kd.R_lt (rf HO579 BK581 (fun _ h_ => h_.1)))) (below_size (bb HB))); have HO600 := Aside0.mk (Kd.R_lower (Kd.R_new' (Kd.R_new' (Kd.R_new' (Kd.R_new' (Kd.R_new' (Kd.R_new' (Kd.R_new' ho4 (Kd.R_lt (rf HO547 BK581 (fun _ h_ => h_.1)))) (Kd.R_lt (rf HO554 BK581 (fun _ h_ => h_.1)))) (Kd.R_lt (rf HO557 BK581 (fun _ h_ => h_.1)))) (Kd.R_lt (rf HO560 BK581 (fun _ h_ => h_.1)))) (Kd.R_lt (rf HO569 BK581 (fun _ h_ => h_.1)))) (Kd.R_lt (rf HO576 BK581 (fun _ h_ => h_.1)))) (Kd.R_lt (rf HO579 BK581 (fun _ h_ => h_.1)))) (below_size (bb HB))); replace HO547 := Aside0.mk (Kd.R_mono (Kd.R_told (Kd.R_told (Kd.R_told (Kd.R_old (rf HO547 BK581 (fun _ h_ => h_.1)) hb) (Kd.R_base ho1)) (Kd.R_base ho3)) (Kd.R_base ho4)) (fun _ h_ => h_.1)); replace HO554 := Aside0.mk (Kd.R_mono (Kd.R_told (Kd.R_told (Kd.R_told (Kd.R_old (rf HO554 BK581 (fun _ h_ => h_.1)) hb) (Kd.R_base ho1)) (Kd.R_base ho3)) (Kd.R_base ho4)) (fun _ h_ => h_.1)); replace HO557 := Aside0.mk (Kd.R_mono (Kd.R_told (Kd.R_told (Kd.R_told (Kd.R_old (rf HO557 BK581 (fun _ h_ => h_.1)) hb) (Kd.R_base ho1)) (Kd.R_base ho3)) (Kd.R_base ho4)) (fun _ h_ => h_.1)); replace HO560 := Aside0.mk (Kd.R_mono (Kd.R_told (Kd.R_told (Kd.R_told (Kd.R_old (rf HO560 BK581 (fun _ h_ => h_.1)) hb) (Kd.R_base ho1)) (Kd.R_base ho3)) (Kd.R_base ho4)) (fun _ h_ => h_.1)); replace HO569 := Aside0.mk (Kd.R_mono (Kd.R_told (Kd.R_told (Kd.R_told (Kd.R_old (rf HO569 BK581 (fun _ h_ => h_.1)) hb) (Kd.R_base ho1)) (Kd.R_base ho3)) (Kd.R_base ho4)) (fun _ h_ => h_.1)); replace HO576 := Aside0.mk (Kd.R_mono (Kd.R_told (Kd.R_told (Kd.R_told (Kd.R_old (rf HO576 BK581 (fun _ h_ => h_.1)) hb) (Kd.R_base ho1)) (Kd.R_base ho3)) (Kd.R_base ho4)) (fun _ h_ => h_.1)); replace HO579 := Aside0.mk (Kd.R_mono (Kd.R_told (Kd.R_told (Kd.R_told (Kd.R_old (rf HO579 BK581 (fun _ h_ => h_.1)) hb) (Kd.R_base ho1)) (Kd.R_base ho3)) (Kd.R_base ho4)) (fun _ h_ => h_.1)); replace BK537 := Aside0.mk (blk_below (g := gb537) (o := .cells #[.slice A0_0 l0_0.length c0_0, .int .i64 a0_1, .int .i64 a0_2, .int .i64 a0_3, .slice A0_4 l0_4.length c0_4, .bool a0_5, .slice A0_6 l0_6.length c0_6, .slice A0_7 l0_7.length c0_7, .slice A0_8 l0_8.length c0_8] 28 (0, 0)) (by (with_reducible repeat (first | refine blk_drewN ?_ _ | refine blk_drew ?_ | refine blk_alloc ?_ _)); refine blk_far ?_ NB537_581.out _; (with_reducible repeat (first | refine blk_drewN ?_ _ | refine blk_drew ?_ | refine blk_alloc ?_ _)); refine blk_far ?_ NB537_581.out _; (with_reducible repeat (first | refine blk_drewN ?_ _ | refine blk_drew ?_ | refine blk_alloc ?_ _)); refine blk_far ?_ NB537_581.out _; (with_reducible repeat (first | refine blk_drewN ?_ _ | refine blk_drew ?_ | refine blk_alloc ?_ _)); refine blk_far ?_ NB537_581.out _; (with_reducible repeat (first | refine blk_drewN ?_ _ | refine blk_drew ?_ | refine blk_alloc ?_ _)); refine blk_far ?_ NB537_581.out _; (with_reducible repeat (first | refine blk_drewN ?_ _ | refine blk_drew ?_ | refine blk_alloc ?_ _)); refine blk_far ?_ NB537_581.out _; (with_reducible repeat (first | refine blk_drewN ?_ _ | refine blk_drew ?_ | refine blk_alloc ?_ _)); refine blk_far ?_ NB537_581.out _; (with_reducible repeat (first | refine blk_drewN ?_ _ | refine blk_drew ?_ | refine blk_alloc ?_ _)); refine blk_far ?_ NB537_581.out _; (with_reducible repeat (first | refine blk_drewN ?_ _ | refine blk_drew ?_ | refine blk_alloc ?_ _)); refine blk_far ?_ NB537_581.out _; (with_reducible repeat (first | refine blk_drewN ?_ _ | refine blk_drew ?_ | refine blk_alloc ?_ _)); exact BK537.out) hb); replace BK581 := Aside0.mk (blk_below (g := gb581) (o := .cells #[.slice Ao29 t561.length co29, .int .i64 t564, .int .i64 t565, .int .i64 t566, .slice Ao32 t567.length co32, .bool t570, .slice Ao33 t571.length co33, .slice Ao34 t574.length co34, .slice Ao35 t577.length co35] 34 (0, 0)) (by (with_reducible repeat (first | refine blk_drewN ?_ _ | refine blk_drew ?_ | refine blk_alloc ?_ _)); refine blk_put (cs := #[.slice Ao29 t561.length co29, .int .i64 t564, .int .i64 t565, .int .i64 t566, .slice Ao32 t567.length co32, .bool t570, .slice Ao33 t571.length co33, .slice Ao34 t574.length co34, .slice none 0 0]) ?_ 8 _ rfl; (with_reducible repeat (first | refine blk_drewN ?_ _ | refine blk_drew ?_ | refine blk_alloc ?_ _)); refine blk_put (cs := #[.slice Ao29 t561.length co29, .int .i64 t564, .int .i64 t565, .int .i64 t566, .slice Ao32 t567.length co32, .bool t570, .slice Ao33 t571.length co33, .slice none 0 0, .slice none 0 0]) ?_ 7 _ rfl; (with_reducible repeat (first | refine blk_drewN ?_ _ | refine blk_drew ?_ | refine blk_alloc ?_ _)); refine blk_put (cs := #[.slice Ao29 t561.length co29, .int .i64 t564, .int .i64 t565, .int .i64 t566, .slice Ao32 t567.length co32, .bool t570, .slice none 0 0, .slice none 0 0, .slice none 0 0]) ?_ 6 _ rfl; (with_reducible repeat (first | refine blk_drewN ?_ _ | refine blk_drew ?_ | refine blk_alloc ?_ _)); refine blk_put (cs := #[.slice Ao29 t561.length co29, .int .i64 t564, .int .i64 t565, .int .i64 t566, .slice Ao32 t567.length co32, .bool false, .slice none 0 0, .slice none 0 0, .slice none 0 0]) ?_ 5 _ rfl; (with_reducible repeat (first | refine blk_drewN ?_ _ | refine blk_drew ?_ | refine blk_alloc ?_ _)); refine blk_put (cs := #[.slice Ao29 t561.length co29, .int .i64 t564, .int .i64 t565, .int .i64 t566, .slice none 0 0, .bool false, .slice none 0 0, .slice none 0 0, .slice none 0 0]) ?_ 4 _ rfl; (with_reducible repeat (first | refine blk_drewN ?_ _ | refine blk_drew ?_ | refine blk_alloc ?_ _)); refine blk_put (cs := #[.slice Ao29 t561.length co29, .int .i64 t564, .int .i64 t565, .int .i64 0, .slice none 0 0, .bool false, .slice none 0 0, .slice none 0 0, .slice none 0 0]) ?_ 3 _ rfl; (with_reducible repeat (first | refine blk_drewN ?_ _ | refine blk_drew ?_ | refine blk_alloc ?_ _)); refine blk_put (cs := #[.slice Ao29 t561.length co29, .int .i64 t564, .int .i64 0, .int .i64 0, .slice none 0 0, .bool false, .slice none 0 0, .slice none 0 0, .slice none 0 0]) ?_ 2 _ rfl; (with_reducible repeat (first | refine blk_drewN ?_ _ | refine blk_drew ?_ | refine blk_alloc ?_ _)); refine blk_put (cs := #[.slice Ao29 t561.length co29, .int .i64 0, .int .i64 0, .int .i64 0, .slice none 0 0, .bool false, .slice none 0 0, .slice none 0 0, .slice none 0 0]) ?_ 1 _ rfl; (with_reducible repeat (first | refine blk_drewN ?_ _ | refine blk_drew ?_ | refine blk_alloc ?_ _)); refine blk_put (cs := #[.slice none 0 0, .int .i64 0, .int .i64 0, .int .i64 0, .slice none 0 0, .bool false, .slice none 0 0, .slice none 0 0, .slice none 0 0]) ?_ 0 _ rfl; (with_reducible repeat (first | refine blk_drewN ?_ _ | refine blk_drew ?_ | refine blk_alloc ?_ _)); exact BK581.out) hb); replace HB := hs_ HB hb; (try clear hb hb2 hk hi ho0 ho1 ho2 ho3 ho4)) | ((with_reducible refine gate_dst (N := 8) rfl ?_); refine bx (N := 8) (cs := #[.slice none 0 0, .int .i64 0, .int .i64 0, .int .i64 0, .slice none 0 0, .bool false, .slice none 0 0, .slice none 0 0, .slice none 0 0]) (t := 34) ?_; intro gb601 hg w38 hbox hb; replace HO541 := kr HO541 hb; replace HO547 := kr HO547 hb; replace HO551 := kr HO551 hb; replace HO554 := kr HO554 hb; replace HO557 := kr HO557 hb; replace HO560 := kr HO560 hb; replace HO563 := kr HO563 hb; replace HO569 := kr HO569 hb; replace HO573 := kr HO573 hb; replace HO576 := kr HO576 hb; replace HO579 := kr HO579 hb; replace HO584 := kr HO584 hb; replace HO590 := kr HO590 hb; replace HO594 := kr HO594 hb; replace HO597 := kr HO597 hb; replace HO600 := kr HO600 hb; have BK601 := Aside0.mk (hbox); have GW601 := gs hg HB; have GE601 := gs hg HB; replace HB := hs_ HB hb; have NB537_601 := gn hg BK537; have NB601_537 := gm hg BK537; replace BK537 := kb BK537 hb; have NB581_601 := gn hg BK581; have NB601_581 := gm hg BK581; replace BK581 := kb BK581 hb; clear hb hbox hg; obtain ⟨Ao39, co39, eo39⟩ := Kd.R_slice HO584.out; subst eo39; have hnb40 := NB601_537.out; have hnc40 := NB537_601.out; have hnb41 := NB601_581.out; have hnc41 := NB581_601.out; have ⟨hcz42_0, hcz42_1, hcz42_2, hcz42_3, hcz42_4, hcz42_5, hcz42_6, hcz42_7, hcz42_8, hfz42_0, hfz42_1, hfz42_2, hfz42_3, hfz42_4, hfz42_5, hfz42_6, hfz42_7, hfz42_8⟩ := rz9 BK601; obtain ⟨Ao43, co43, eo43⟩ := Kd.R_slice HO590.out; subst eo43; obtain ⟨Ao44, co44, eo44⟩ := Kd.R_slice HO594.out; subst eo44; obtain ⟨Ao45, co45, eo45⟩ := Kd.R_slice HO597.out; subst eo45; obtain ⟨Ao46, co46, eo46⟩ := Kd.R_slice HO600.out; subst eo46) | ((with_reducible refine gate_callee (f := 9) rfl ?_); refine gl (some 36) Try.func9 #[.slice A1 l1.length c1] ?_; (with_reducible refine (laws_toIntS.calls k _ _ l1 t602 _ ?side1 ?side2 A15.out).mono ?_); (case side1 => exact Kd.C_below HR1.out (bb HB)); (case side2 => exact HC1.out); rintro e w47 ⟨v603, rfl, ho0, hb⟩; refine ⟨_, rfl, ?_⟩; replace HO541 := kf HO541 BK601 hb; replace HO551 := kf HO551 BK601 hb; replace HO563 := kf HO563 BK601 hb; replace HO573 := kf HO573 BK601 hb; replace HO584 := kf HO584 BK601 hb; replace HO594 := kf HO594 BK601 hb; have HO604 := Aside0.mk (Kd.R_lower (Kd.R_new' (Kd.R_new' (Kd.R_new' (Kd.R_new' (Kd.R_new' (Kd.R_new' (Kd.R_new' (Kd.R_new' (Kd.R_new' (Kd.R_new' ho0 (Kd.R_lt (rf HO547 BK601 (fun _ h_ => h_.1)))) (Kd.R_lt (rf HO554 BK601 (fun _ h_ => h_.1)))) (Kd.R_lt (rf HO557 BK601 (fun _ h_ => h_.1)))) (Kd.R_lt (rf HO560 BK601 (fun _ h_ => h_.1)))) (Kd.R_lt (rf HO569 BK601 (fun _ h_ => h_.1)))) (Kd.R_lt (rf HO576 BK601 (fun _ h_ => h_.1)))) (Kd.R_lt (rf HO579 BK601 (fun _ h_ => h_.1)))) (Kd.R_lt (rf HO590 BK601 (fun _ h_ => h_.1)))) (Kd.R_lt (rf HO597 BK601 (fun _ h_ => h_.1)))) (Kd.R_lt (rf HO600 BK601 (fun _ h_ => h_.1)))) (below_size (bb HB))); replace HO547 := Aside0.mk (Kd.R_elder' (rf HO547 BK601 (fun _ h_ => h_.1)) (Kd.R_base ho0) hb); replace HO554 := Aside0.mk (Kd.R_elder' (rf HO554 BK601 (fun _ h_ => h_.1)) (Kd.R_base ho0) hb); replace HO557 := Aside0.mk (Kd.R_elder' (rf HO557 BK601 (fun _ h_ => h_.1)) (Kd.R_base ho0) hb); replace HO560 := Aside0.mk (Kd.R_elder' (rf HO560 BK601 (fun _ h_ => h_.1)) (Kd.R_base ho0) hb); replace HO569 := Aside0.mk (Kd.R_elder' (rf HO569 BK601 (fun _ h_ => h_.1)) (Kd.R_base ho0) hb); replace HO576 := Aside0.mk (Kd.R_elder' (rf HO576 BK601 (fun _ h_ => h_.1)) (Kd.R_base ho0) hb); replace HO579 := Aside0.mk (Kd.R_elder' (rf HO579 BK601 (fun _ h_ => h_.1)) (Kd.R_base ho0) hb); replace HO590 := Aside0.mk (Kd.R_elder' (rf HO590 BK601 (fun _ h_ => h_.1)) (Kd.R_base ho0) hb); replace HO597 := Aside0.mk (Kd.R_elder' (rf HO597 BK601 (fun _ h_ => h_.1)) (Kd.R_base ho0) hb); replace HO600 := Aside0.mk (Kd.R_elder' (rf HO600 BK601 (fun _ h_ => h_.1)) (Kd.R_base ho0) hb); replace BK537 := Aside0.mk (blk_below (g := gb537) (o := .cells #[.slice A0_0 l0_0.length c0_0, .int .i64 a0_1, .int .i64 a0_2, .int .i64 a0_3, .slice A0_4 l0_4.length c0_4, .bool a0_5, .slice A0_6 l0_6.length c0_6, .slice A0_7 l0_7.length c0_7, .slice A0_8 l0_8.length c0_8] 28 (0, 0)) (by (with_reducible repeat (first | refine blk_drewN ?_ _ | refine blk_drew ?_ | refine blk_alloc ?_ _)); refine blk_far ?_ NB537_601.out _; (with_reducible repeat (first | refine blk_drewN ?_ _ | refine blk_drew ?_ | refine blk_alloc ?_ _)); refine blk_far ?_ NB537_601.out _; (with_reducible repeat (first | refine blk_drewN ?_ _ | refine blk_drew ?_ | refine blk_alloc ?_ _)); refine blk_far ?_ NB537_601.out _; (with_reducible repeat (first | refine blk_drewN ?_ _ | refine blk_drew ?_ | refine blk_alloc ?_ _)); refine blk_far ?_ NB537_601.out _; (with_reducible repeat (first | refine blk_drewN ?_ _ | refine blk_drew ?_ | refine blk_alloc ?_ _)); refine blk_far ?_ NB537_601.out _; (with_reducible repeat (first | refine blk_drewN ?_ _ | refine blk_drew ?_ | refine blk_alloc ?_ _)); refine blk_far ?_ NB537_601.out _; (with_reducible repeat (first | refine blk_drewN ?_ _ | refine blk_drew ?_ | refine blk_alloc ?_ _)); refine blk_far ?_ NB537_601.out _; (with_reducible repeat (first | refine blk_drewN ?_ _ | refine blk_drew ?_ | refine blk_alloc ?_ _)); refine blk_far ?_ NB537_601.out _; (with_reducible repeat (first | refine blk_drewN ?_ _ | refine blk_drew ?_ | refine blk_alloc ?_ _)); refine blk_far ?_ NB537_601.out _; (with_reducible repeat (first | refine blk_drewN ?_ _ | refine blk_drew ?_ | refine blk_alloc ?_ _)); exact BK537.out) hb); replace BK581 := Aside0.mk (blk_below (g := gb581) (o := .cells #[.slice Ao29 t561.length co29, .int .i64 t564, .int .i64 t565, .int .i64 t566, .slice Ao32 t567.length co32, .bool t570, .slice Ao33 t571.length co33, .slice Ao34 t574.length co34, .slice Ao35 t577.length co35] 34 (0, 0)) (by (with_reducible repeat (first | refine blk_drewN ?_ _ | refine blk_drew ?_ | refine blk_alloc ?_ _)); refine blk_far ?_ NB581_601.out _; (with_reducible repeat (first | refine blk_drewN ?_ _ | refine blk_drew ?_ | refine blk_alloc ?_ _)); refine blk_far ?_ NB581_601.out _; (with_reducible repeat (first | refine blk_drewN ?_ _ | refine blk_drew ?_ | refine blk_alloc ?_ _)); refine blk_far ?_ NB581_601.out _; (with_reducible repeat (first | refine blk_drewN ?_ _ | refine blk_drew ?_ | refine blk_alloc ?_ _)); refine blk_far ?_ NB581_601.out _; (with_reducible repeat (first | refine blk_drewN ?_ _ | refine blk_drew ?_ | refine blk_alloc ?_ _)); refine blk_far ?_ NB581_601.out _; (with_reducible repeat (first | refine blk_drewN ?_ _ | refine blk_drew ?_ | refine blk_alloc ?_ _)); refine blk_far ?_ NB581_601.out _; (with_reducible repeat (first | refine blk_drewN ?_ _ | refine blk_drew ?_ | refine blk_alloc ?_ _)); refine blk_far ?_ NB581_601.out _; (with_reducible repeat (first | refine blk_drewN ?_ _ | refine blk_drew ?_ | refine blk_alloc ?_ _)); refine blk_far ?_ NB581_601.out _; (with_reducible repeat (first | refine blk_drewN ?_ _ | refine blk_drew ?_ | refine blk_alloc ?_ _)); refine blk_far ?_ NB581_601.out _; (with_reducible repeat (first | refine blk_drewN ?_ _ | refine blk_drew ?_ | refine blk_alloc ?_ _)); exact BK581.out) hb); replace BK601 := Aside0.mk (blk_below (g := gb601) (o := .cells #[.slice Ao39 t582.length co39, .int .i64 t585, .int .i64 t586, .int .i64 t587, .slice Ao43 t588.length co43, .bool t591, .slice Ao44 t592.length co44, .slice Ao45 t595.length co45, .slice Ao46 t598.length co46] 34 (0, 0)) (by (with_reducible repeat (first | refine blk_drewN ?_ _ | refine blk_drew ?_ | refine blk_alloc ?_ _)); refine blk_put (cs := #[.slice Ao39 t582.length co39, .int .i64 t585, .int .i64 t586, .int .i64 t587, .slice Ao43 t588.length co43, .bool t591, .slice Ao44 t592.length co44, .slice Ao45 t595.length co45, .slice none 0 0]) ?_ 8 _ rfl; (with_reducible repeat (first | refine blk_drewN ?_ _ | refine blk_drew ?_ | refine blk_alloc ?_ _)); refine blk_put (cs := #[.slice Ao39 t582.length co39, .int .i64 t585, .int .i64 t586, .int .i64 t587, .slice Ao43 t588.length co43, .bool t591, .slice Ao44 t592.length co44, .slice none 0 0, .slice none 0 0]) ?_ 7 _ rfl; (with_reducible repeat (first | refine blk_drewN ?_ _ | refine blk_drew ?_ | refine blk_alloc ?_ _)); refine blk_put (cs := #[.slice Ao39 t582.length co39, .int .i64 t585, .int .i64 t586, .int .i64 t587, .slice Ao43 t588.length co43, .bool t591, .slice none 0 0, .slice none 0 0, .slice none 0 0]) ?_ 6 _ rfl; (with_reducible repeat (first | refine blk_drewN ?_ _ | refine blk_drew ?_ | refine blk_alloc ?_ _)); refine blk_put (cs := #[.slice Ao39 t582.length co39, .int .i64 t585, .int .i64 t586, .int .i64 t587, .slice Ao43 t588.length co43, .bool false, .slice none 0 0, .slice none 0 0, .slice none 0 0]) ?_ 5 _ rfl; (with_reducible repeat (first | refine blk_drewN ?_ _ | refine blk_drew ?_ | refine blk_alloc ?_ _)); refine blk_put (cs := #[.slice Ao39 t582.length co39, .int .i64 t585, .int .i64 t586, .int .i64 t587, .slice none 0 0, .bool false, .slice none 0 0, .slice none 0 0, .slice none 0 0]) ?_ 4 _ rfl; (with_reducible repeat (first | refine blk_drewN ?_ _ | refine blk_drew ?_ | refine blk_alloc ?_ _)); refine blk_put (cs := #[.slice Ao39 t582.length co39, .int .i64 t585, .int .i64 t586, .int .i64 0, .slice none 0 0, .bool false, .slice none 0 0, .slice none 0 0, .slice none 0 0]) ?_ 3 _ rfl; (with_reducible repeat (first | refine blk_drewN ?_ _ | refine blk_drew ?_ | refine blk_alloc ?_ _)); refine blk_put (cs := #[.slice Ao39 t582.length co39, .int .i64 t585, .int .i64 0, .int .i64 0, .slice none 0 0, .bool false, .slice none 0 0, .slice none 0 0, .slice none 0 0]) ?_ 2 _ rfl; (with_reducible repeat (first | refine blk_drewN ?_ _ | refine blk_drew ?_ | refine blk_alloc ?_ _)); refine blk_put (cs := #[.slice Ao39 t582.length co39, .int .i64 0, .int .i64 0, .int .i64 0, .slice none 0 0, .bool false, .slice none 0 0, .slice none 0 0, .slice none 0 0]) ?_ 1 _ rfl; (with_reducible repeat (first | refine blk_drewN ?_ _ | refine blk_drew ?_ | refine blk_alloc ?_ _)); refine blk_put (cs := #[.slice none 0 0, .int .i64 0, .int .i64 0, .int .i64 0, .slice none 0 0, .bool false, .slice none 0 0, .slice none 0 0, .slice none 0 0]) ?_ 0 _ rfl; (with_reducible repeat (first | refine blk_drewN ?_ _ | refine blk_drew ?_ | refine blk_alloc ?_ _)); exact BK601.out) hb); replace HB := hs_ HB hb; (try clear hb hb2 hk hi ho0); have ⟨hcz48_0, hcz48_1, hcz48_2, hcz48_3, hcz48_4, hcz48_5, hcz48_6, hcz48_7, hcz48_8, hfz48_0, hfz48_1, hfz48_2, hfz48_3, hfz48_4, hfz48_5, hfz48_6, hfz48_7, hfz48_8⟩ := rz9 BK601; obtain ⟨Ao49, co49, eo49⟩ := Kd.R_slice HO604.out; subst eo49) | ((with_reducible refine gate_callee (f := 10) rfl ?_); refine gl (some 40) Try.func10 #[.agg #[.slice Ao39 t582.length co39, .int .i64 t585, .int .i64 t586, .int .i64 t587, .slice Ao43 t588.length co43, .bool t591, .slice Ao44 t592.length co44, .slice Ao45 t595.length co45, .slice Ao46 t598.length co46], .slice Ao49 t602.length co49] ?_; (with_reducible refine (impl_WithOutcome.calls k _ _ t582 t585 t586 t587 _ _ t588 t591 _ _ t592 _ _ t595 _ _ t598 _ _ t602 t605 t608 t609 t610 t611 t614 t615 t618 t621 t624 _ ?side1 ?side2 ?side3 ?side4 ?side5 ?side6 ?side7 ?side8 ?side9 ?side10 ?side11 ?side12 A16.out).mono ?_); (case side1 => exact cr HO584); (case side2 => exact cl HO584); (case side3 => exact cr HO590); (case side4 => exact cl HO590); (case side5 => exact cr HO594); (case side6 => exact cl HO594); (case side7 => exact cr HO597); (case side8 => exact cl HO597); (case side9 => exact cr HO600); (case side10 => exact cl HO600); (case side11 => exact cr HO604); (case side12 => exact cl HO604); rintro e w50 ⟨v606, v612, v616, v619, v622, rfl, ho0, ho1, ho2, ho3, ho4, hb⟩; refine ⟨_, rfl, ?_⟩; have HO607 := Aside0.mk (Kd.R_lower (Kd.R_new' (Kd.R_new' (Kd.R_new' ho0 (rt HO541)) (rt HO563)) (rt HO584)) (below_size (bb HB))); replace HO541 := ke HO541 ho0 hb; replace HO563 := ke HO563 ho0 hb; replace HO584 := ke HO584 ho0 hb; have HO613 := Aside0.mk (Kd.R_lower (Kd.R_new' (Kd.R_new' (Kd.R_new' (Kd.R_new' (Kd.R_new' (Kd.R_new' (Kd.R_new' (Kd.R_new' (Kd.R_new' (Kd.R_new' (Kd.R_new' ho1 (rt HO547)) (rt HO554)) (rt HO557)) (rt HO560)) (rt HO569)) (rt HO576)) (rt HO579)) (rt HO590)) (rt HO597)) (rt HO600)) (rt HO604)) (below_size (bb HB))); have HO617 := Aside0.mk (Kd.R_lower (Kd.R_new' (Kd.R_new' (Kd.R_new' ho2 (rt HO551)) (rt HO573)) (rt HO594)) (below_size (bb HB))); replace HO551 := ke HO551 ho2 hb; replace HO573 := ke HO573 ho2 hb; replace HO594 := ke HO594 ho2 hb; have HO620 := Aside0.mk (Kd.R_lower (Kd.R_new' (Kd.R_new' (Kd.R_new' (Kd.R_new' (Kd.R_new' (Kd.R_new' (Kd.R_new' (Kd.R_new' (Kd.R_new' (Kd.R_new' (Kd.R_new' ho3 (rt HO547)) (rt HO554)) (rt HO557)) (rt HO560)) (rt HO569)) (rt HO576)) (rt HO579)) (rt HO590)) (rt HO597)) (rt HO600)) (rt HO604)) (below_size (bb HB))); have HO623 := Aside0.mk (Kd.R_lower (Kd.R_new' (Kd.R_new' (Kd.R_new' (Kd.R_new' (Kd.R_new' (Kd.R_new' (Kd.R_new' (Kd.R_new' (Kd.R_new' (Kd.R_new' (Kd.R_new' ho4 (rt HO547)) (rt HO554)) (rt HO557)) (rt HO560)) (rt HO569)) (rt HO576)) (rt HO579)) (rt HO590)) (rt HO597)) (rt HO600)) (rt HO604)) (below_size (bb HB))); replace HO547 := Aside0.mk (Kd.R_mono (Kd.R_told (Kd.R_told (Kd.R_told (Kd.R_old (rr HO547) hb) (Kd.R_base ho1)) (Kd.R_base ho3)) (Kd.R_base ho4)) (fun _ h_ => h_.1)); replace HO554 := Aside0.mk (Kd.R_mono (Kd.R_told (Kd.R_told (Kd.R_told (Kd.R_old (rr HO554) hb) (Kd.R_base ho1)) (Kd.R_base ho3)) (Kd.R_base ho4)) (fun _ h_ => h_.1)); replace HO557 := Aside0.mk (Kd.R_mono (Kd.R_told (Kd.R_told (Kd.R_told (Kd.R_old (rr HO557) hb) (Kd.R_base ho1)) (Kd.R_base ho3)) (Kd.R_base ho4)) (fun _ h_ => h_.1)); replace HO560 := Aside0.mk (Kd.R_mono (Kd.R_told (Kd.R_told (Kd.R_told (Kd.R_old (rr HO560) hb) (Kd.R_base ho1)) (Kd.R_base ho3)) (Kd.R_base ho4)) (fun _ h_ => h_.1)); replace HO569 := Aside0.mk (Kd.R_mono (Kd.R_told (Kd.R_told (Kd.R_told (Kd.R_old (rr HO569) hb) (Kd.R_base ho1)) (Kd.R_base ho3)) (Kd.R_base ho4)) (fun _ h_ => h_.1)); replace HO576 := Aside0.mk (Kd.R_mono (Kd.R_told (Kd.R_told (Kd.R_told (Kd.R_old (rr HO576) hb) (Kd.R_base ho1)) (Kd.R_base ho3)) (Kd.R_base ho4)) (fun _ h_ => h_.1)); replace HO579 := Aside0.mk (Kd.R_mono (Kd.R_told (Kd.R_told (Kd.R_told (Kd.R_old (rr HO579) hb) (Kd.R_base ho1)) (Kd.R_base ho3)) (Kd.R_base ho4)) (fun _ h_ => h_.1)); replace HO590 := Aside0.mk (Kd.R_mono (Kd.R_told (Kd.R_told (Kd.R_told (Kd.R_old (rr HO590) hb) (Kd.R_base ho1)) (Kd.R_base ho3)) (Kd.R_base ho4)) (fun _ h_ => h_.1)); replace HO597 := Aside0.mk (Kd.R_mono (Kd.R_told (Kd.R_told (Kd.R_told (Kd.R_old (rr HO597) hb) (Kd.R_base ho1)) (Kd.R_base ho3)) (Kd.R_base ho4)) (fun _ h_ => h_.1)); replace HO600 := Aside0.mk (Kd.R_mono (Kd.R_told (Kd.R_told (Kd.R_told (Kd.R_old (rr HO600) hb) (Kd.R_base ho1)) (Kd.R_base ho3)) (Kd.R_base ho4)) (fun _ h_ => h_.1)); replace HO604 := Aside0.mk (Kd.R_mono (Kd.R_told (Kd.R_told (Kd.R_told (Kd.R_old (rr HO604) hb) (Kd.R_base ho1)) (Kd.R_base ho3)) (Kd.R_base ho4)) (fun _ h_ => h_.1)); replace BK537 := kb BK537 hb; replace BK581 := kb BK581 hb; replace BK601 := kb BK601 hb; replace HB := hs_ HB hb; (try clear hb hb2 hk hi ho0 ho1 ho2 ho3 ho4)) | ((with_reducible refine gate_dst (N := 10) rfl ?_); refine bx (N := 10) (cs := #[.slice none 0 0, .int .i64 0, .int .i64 0, .int .i64 0, .slice none 0 0, .bool false, .slice none 0 0, .slice none 0 0, .slice none 0 0]) (t := 34) ?_; intro gb625 hg w51 hbox hb; replace HO541 := kr HO541 hb; replace HO547 := kr HO547 hb; replace HO551 := kr HO551 hb; replace HO554 := kr HO554 hb; replace HO557 := kr HO557 hb; replace HO560 := kr HO560 hb; replace HO563 := kr HO563 hb; replace HO569 := kr HO569 hb; replace HO573 := kr HO573 hb; replace HO576 := kr HO576 hb; replace HO579 := kr HO579 hb; replace HO584 := kr HO584 hb; replace HO590 := kr HO590 hb; replace HO594 := kr HO594 hb; replace HO597 := kr HO597 hb; replace HO600 := kr HO600 hb; replace HO604 := kr HO604 hb; replace HO607 := kr HO607 hb; replace HO613 := kr HO613 hb; replace HO617 := kr HO617 hb; replace HO620 := kr HO620 hb; replace HO623 := kr HO623 hb; have BK625 := Aside0.mk (hbox); have GW625 := gs hg HB; have GE625 := gs hg HB; replace HB := hs_ HB hb; have NB537_625 := gn hg BK537; have NB625_537 := gm hg BK537; replace BK537 := kb BK537 hb; have NB581_625 := gn hg BK581; have NB625_581 := gm hg BK581; replace BK581 := kb BK581 hb; have NB601_625 := gn hg BK601; have NB625_601 := gm hg BK601; replace BK601 := kb BK601 hb; clear hb hbox hg; obtain ⟨Ao52, co52, eo52⟩ := Kd.R_slice HO607.out; subst eo52; have hnb53 := NB625_537.out; have hnc53 := NB537_625.out; have hnb54 := NB625_581.out; have hnc54 := NB581_625.out; have hnb55 := NB625_601.out; have hnc55 := NB601_625.out; have ⟨hcz56_0, hcz56_1, hcz56_2, hcz56_3, hcz56_4, hcz56_5, hcz56_6, hcz56_7, hcz56_8, hfz56_0, hfz56_1, hfz56_2, hfz56_3, hfz56_4, hfz56_5, hfz56_6, hfz56_7, hfz56_8⟩ := rz9 BK625; obtain ⟨Ao57, co57, eo57⟩ := Kd.R_slice HO613.out; subst eo57; obtain ⟨Ao58, co58, eo58⟩ := Kd.R_slice HO617.out; subst eo58; obtain ⟨Ao59, co59, eo59⟩ := Kd.R_slice HO620.out; subst eo59; obtain ⟨Ao60, co60, eo60⟩ := Kd.R_slice HO623.out; subst eo60))
   (try simp only [Act.put, List.setIfInBounds_toArray, List.set_cons_zero, List.set_cons_succ])
   go_cut [51] (fun v51 wc => ∃ (kq : Nat) (x51_16 : Bool), v51 = .bool x51_16 ∧ Aside0 (laws_FnExactWithOutcome.j0 kq l1 t580 t602 t624 x51_16 l0_0 a0_1 a0_2 a0_3 l0_4 a0_5 l0_6 l0_7 l0_8 t561 t564 t565 t566 t567 t570 t571 t574 t577 t582 t585 t586 t587 t588 t591 t592 t595 t598 t605 t608 t609 t610 t611 t614 t615 t618 t621 = some r) ∧ Aside0 (kq ≤ k) ∧ Aside0 (Kd.R (Kd.int .i64) 3 wc w.heap.size (fun k_ => nb k_ Ao32 t567.length co32 ∧ nb k_ Ao34 t574.length co34 ∧ nb k_ Ao35 t577.length co35 ∧ nb k_ Ao43 t588.length co43 ∧ nb k_ Ao45 t595.length co45 ∧ nb k_ Ao46 t598.length co46 ∧ nb k_ Ao57 t611.length co57 ∧ nb k_ Ao59 t618.length co59 ∧ nb k_ Ao60 t621.length co60) (.slice Ao49 t602.length co49) t602) ∧ Aside0 (Kd.R k87 87 wc w.heap.size (fun k_ => nb k_ Ao39 t582.length co39 ∧ nb k_ Ao52 t605.length co52) (.slice Ao29 t561.length co29) t561) ∧ Aside0 (Kd.R (Kd.int .i64) 3 wc w.heap.size (fun k_ => nb k_ Ao49 t602.length co49 ∧ nb k_ Ao34 t574.length co34 ∧ nb k_ Ao35 t577.length co35 ∧ nb k_ Ao43 t588.length co43 ∧ nb k_ Ao45 t595.length co45 ∧ nb k_ Ao46 t598.length co46 ∧ nb k_ Ao57 t611.length co57 ∧ nb k_ Ao59 t618.length co59 ∧ nb k_ Ao60 t621.length co60) (.slice Ao32 t567.length co32) t567) ∧ Aside0 (Kd.R k75 75 wc w.heap.size (fun k_ => nb k_ Ao44 t592.length co44 ∧ nb k_ Ao58 t615.length co58) (.slice Ao33 t571.length co33) t571) ∧ Aside0 (Kd.R (Kd.int .i64) 3 wc w.heap.size (fun k_ => nb k_ Ao49 t602.length co49 ∧ nb k_ Ao32 t567.length co32 ∧ nb k_ Ao35 t577.length co35 ∧ nb k_ Ao43 t588.length co43 ∧ nb k_ Ao45 t595.length co45 ∧ nb k_ Ao46 t598.length co46 ∧ nb k_ Ao57 t611.length co57 ∧ nb k_ Ao59 t618.length co59 ∧ nb k_ Ao60 t621.length co60) (.slice Ao34 t574.length co34) t574) ∧ Aside0 (Kd.R (Kd.int .i64) 3 wc w.heap.size (fun k_ => nb k_ Ao49 t602.length co49 ∧ nb k_ Ao32 t567.length co32 ∧ nb k_ Ao34 t574.length co34 ∧ nb k_ Ao43 t588.length co43 ∧ nb k_ Ao45 t595.length co45 ∧ nb k_ Ao46 t598.length co46 ∧ nb k_ Ao57 t611.length co57 ∧ nb k_ Ao59 t618.length co59 ∧ nb k_ Ao60 t621.length co60) (.slice Ao35 t577.length co35) t577) ∧ Aside0 (Kd.R k87 87 wc w.heap.size (fun k_ => nb k_ Ao29 t561.length co29 ∧ nb k_ Ao52 t605.length co52) (.slice Ao39 t582.length co39) t582) ∧ Aside0 (Kd.R (Kd.int .i64) 3 wc w.heap.size (fun k_ => nb k_ Ao49 t602.length co49 ∧ nb k_ Ao32 t567.length co32 ∧ nb k_ Ao34 t574.length co34 ∧ nb k_ Ao35 t577.length co35 ∧ nb k_ Ao45 t595.length co45 ∧ nb k_ Ao46 t598.length co46 ∧ nb k_ Ao57 t611.length co57 ∧ nb k_ Ao59 t618.length co59 ∧ nb k_ Ao60 t621.length co60) (.slice Ao43 t588.length co43) t588) ∧ Aside0 (Kd.R k75 75 wc w.heap.size (fun k_ => nb k_ Ao33 t571.length co33 ∧ nb k_ Ao58 t615.length co58) (.slice Ao44 t592.length co44) t592) ∧ Aside0 (Kd.R (Kd.int .i64) 3 wc w.heap.size (fun k_ => nb k_ Ao49 t602.length co49 ∧ nb k_ Ao32 t567.length co32 ∧ nb k_ Ao34 t574.length co34 ∧ nb k_ Ao35 t577.length co35 ∧ nb k_ Ao43 t588.length co43 ∧ nb k_ Ao46 t598.length co46 ∧ nb k_ Ao57 t611.length co57 ∧ nb k_ Ao59 t618.length co59 ∧ nb k_ Ao60 t621.length co60) (.slice Ao45 t595.length co45) t595) ∧ Aside0 (Kd.R (Kd.int .i64) 3 wc w.heap.size (fun k_ => nb k_ Ao49 t602.length co49 ∧ nb k_ Ao32 t567.length co32 ∧ nb k_ Ao34 t574.length co34 ∧ nb k_ Ao35 t577.length co35 ∧ nb k_ Ao43 t588.length co43 ∧ nb k_ Ao45 t595.length co45 ∧ nb k_ Ao57 t611.length co57 ∧ nb k_ Ao59 t618.length co59 ∧ nb k_ Ao60 t621.length co60) (.slice Ao46 t598.length co46) t598) ∧ Aside0 (Kd.R k87 87 wc w.heap.size (fun k_ => nb k_ Ao29 t561.length co29 ∧ nb k_ Ao39 t582.length co39) (.slice Ao52 t605.length co52) t605) ∧ Aside0 (Kd.R (Kd.int .i64) 3 wc w.heap.size (fun k_ => nb k_ Ao49 t602.length co49 ∧ nb k_ Ao32 t567.length co32 ∧ nb k_ Ao34 t574.length co34 ∧ nb k_ Ao35 t577.length co35 ∧ nb k_ Ao43 t588.length co43 ∧ nb k_ Ao45 t595.length co45 ∧ nb k_ Ao46 t598.length co46 ∧ nb k_ Ao59 t618.length co59 ∧ nb k_ Ao60 t621.length co60) (.slice Ao57 t611.length co57) t611) ∧ Aside0 (Kd.R k75 75 wc w.heap.size (fun k_ => nb k_ Ao33 t571.length co33 ∧ nb k_ Ao44 t592.length co44) (.slice Ao58 t615.length co58) t615) ∧ Aside0 (Kd.R (Kd.int .i64) 3 wc w.heap.size (fun k_ => nb k_ Ao49 t602.length co49 ∧ nb k_ Ao32 t567.length co32 ∧ nb k_ Ao34 t574.length co34 ∧ nb k_ Ao35 t577.length co35 ∧ nb k_ Ao43 t588.length co43 ∧ nb k_ Ao45 t595.length co45 ∧ nb k_ Ao46 t598.length co46 ∧ nb k_ Ao57 t611.length co57 ∧ nb k_ Ao60 t621.length co60) (.slice Ao59 t618.length co59) t618) ∧ Aside0 (Kd.R (Kd.int .i64) 3 wc w.heap.size (fun k_ => nb k_ Ao49 t602.length co49 ∧ nb k_ Ao32 t567.length co32 ∧ nb k_ Ao34 t574.length co34 ∧ nb k_ Ao35 t577.length co35 ∧ nb k_ Ao43 t588.length co43 ∧ nb k_ Ao45 t595.length co45 ∧ nb k_ Ao46 t598.length co46 ∧ nb k_ Ao57 t611.length co57 ∧ nb k_ Ao59 t618.length co59) (.slice Ao60 t621.length co60) t621) ∧ Aside0 (wc.heap[gb537]? = some (.cells #[(.slice A0_0 l0_0.length c0_0), .int .i64 a0_1, .int .i64 a0_2, .int .i64 a0_3, (.slice A0_4 l0_4.length c0_4), .bool a0_5, (.slice A0_6 l0_6.length c0_6), (.slice A0_7 l0_7.length c0_7), (.slice A0_8 l0_8.length c0_8)] 28 (0, 0))) ∧ Aside0 (wc.heap[gb581]? = some (.cells #[(.slice Ao29 t561.length co29), .int .i64 t564, .int .i64 t565, .int .i64 t566, (.slice Ao32 t567.length co32), .bool t570, (.slice Ao33 t571.length co33), (.slice Ao34 t574.length co34), (.slice Ao35 t577.length co35)] 34 (0, 0))) ∧ Aside0 (wc.heap[gb601]? = some (.cells #[(.slice Ao39 t582.length co39), .int .i64 t585, .int .i64 t586, .int .i64 t587, (.slice Ao43 t588.length co43), .bool t591, (.slice Ao44 t592.length co44), (.slice Ao45 t595.length co45), (.slice Ao46 t598.length co46)] 34 (0, 0))) ∧ Aside0 (wc.heap[gb625]? = some (.cells #[(.slice Ao52 t605.length co52), .int .i64 t608, .int .i64 t609, .int .i64 t610, (.slice Ao57 t611.length co57), .bool t614, (.slice Ao58 t615.length co58), (.slice Ao59 t618.length co59), (.slice Ao60 t621.length co60)] 34 (0, 0))) ∧ Aside0 (Below w.heap.size w wc))
   case first =>
    have H := HC17.out
    clear HC17
    replace H := Option.bind_eq_some_iff.mp H
    obtain ⟨t626, A610, H⟩ := H
    try dsimp only at H
    have A61 := Aside0.mk A610
    clear A610
    by_cases c62 : t626 = true
    ·subst c62
     rw [if_pos rfl] at H
     have H' := Aside0.mk H
     clear H
     have hnb63 := NB625_537.out
     have hnc63 := NB537_625.out
     have hnb64 := NB625_581.out
     have hnc64 := NB581_625.out
     have hnb65 := NB625_601.out
     have hnc65 := NB601_625.out
     have ⟨hcz66_0, hcz66_1, hcz66_2, hcz66_3, hcz66_4, hcz66_5, hcz66_6, hcz66_7, hcz66_8, hfz66_0, hfz66_1, hfz66_2, hfz66_3, hfz66_4, hfz66_5, hfz66_6, hfz66_7, hfz66_8⟩ := rz9 BK625
     have hnb67 := NB581_537.out
     have hnc67 := NB537_581.out
     have hnb68 := NB581_601.out
     have hnc68 := NB601_581.out
     have ⟨hcz69_0, hcz69_1, hcz69_2, hcz69_3, hcz69_4, hcz69_5, hcz69_6, hcz69_7, hcz69_8, hfz69_0, hfz69_1, hfz69_2, hfz69_3, hfz69_4, hfz69_5, hfz69_6, hfz69_7, hfz69_8⟩ := rz9 BK581
     go_wp2_with (first | ((with_reducible refine gate_callee (f := 11) rfl ?_); refine gl (some 45) Try.func11 #[.agg #[.slice Ao52 t605.length co52, .int .i64 t608, .int .i64 t609, .int .i64 t610, .slice Ao57 t611.length co57, .bool t614, .slice Ao58 t615.length co58, .slice Ao59 t618.length co59, .slice Ao60 t621.length co60], .agg #[.slice Ao29 t561.length co29, .int .i64 t564, .int .i64 t565, .int .i64 t566, .slice Ao32 t567.length co32, .bool t570, .slice Ao33 t571.length co33, .slice Ao34 t574.length co34, .slice Ao35 t577.length co35]] ?_; (with_reducible refine (laws_eqBook.calls k _ _ t605 t608 t609 t610 _ _ t611 t614 _ _ t615 _ _ t618 _ _ t621 _ _ t561 t564 t565 t566 _ _ t567 t570 _ _ t571 _ _ t574 _ _ t577 true _ ?side1 ?side2 ?side3 ?side4 ?side5 ?side6 ?side7 ?side8 ?side9 ?side10 ?side11 ?side12 ?side13 ?side14 ?side15 ?side16 ?side17 ?side18 ?side19 ?side20 A61.out).mono ?_); (case side1 => exact cf HO607 BK625); (case side2 => exact cl HO607); (case side3 => exact cf HO613 BK625); (case side4 => exact cl HO613); (case side5 => exact cf HO617 BK625); (case side6 => exact cl HO617); (case side7 => exact cf HO620 BK625); (case side8 => exact cl HO620); (case side9 => exact cf HO623 BK625); (case side10 => exact cl HO623); (case side11 => exact cf HO563 BK625); (case side12 => exact cl HO563); (case side13 => exact cf HO569 BK625); (case side14 => exact cl HO569); (case side15 => exact cf HO573 BK625); (case side16 => exact cl HO573); (case side17 => exact cf HO576 BK625); (case side18 => exact cl HO576); (case side19 => exact cf HO579 BK625); (case side20 => exact cl HO579); rintro e w70 ⟨rfl, hb⟩; refine ⟨_, rfl, ?_⟩; replace HO541 := kf HO541 BK625 hb; replace HO547 := kf HO547 BK625 hb; replace HO551 := kf HO551 BK625 hb; replace HO554 := kf HO554 BK625 hb; replace HO557 := kf HO557 BK625 hb; replace HO560 := kf HO560 BK625 hb; replace HO563 := kf HO563 BK625 hb; replace HO569 := kf HO569 BK625 hb; replace HO573 := kf HO573 BK625 hb; replace HO576 := kf HO576 BK625 hb; replace HO579 := kf HO579 BK625 hb; replace HO584 := kf HO584 BK625 hb; replace HO590 := kf HO590 BK625 hb; replace HO594 := kf HO594 BK625 hb; replace HO597 := kf HO597 BK625 hb; replace HO600 := kf HO600 BK625 hb; replace HO604 := kf HO604 BK625 hb; replace HO607 := kf HO607 BK625 hb; replace HO613 := kf HO613 BK625 hb; replace HO617 := kf HO617 BK625 hb; replace HO620 := kf HO620 BK625 hb; replace HO623 := kf HO623 BK625 hb; replace BK537 := Aside0.mk (blk_below (g := gb537) (o := .cells #[.slice A0_0 l0_0.length c0_0, .int .i64 a0_1, .int .i64 a0_2, .int .i64 a0_3, .slice A0_4 l0_4.length c0_4, .bool a0_5, .slice A0_6 l0_6.length c0_6, .slice A0_7 l0_7.length c0_7, .slice A0_8 l0_8.length c0_8] 28 (0, 0)) (by (with_reducible repeat (first | refine blk_drewN ?_ _ | refine blk_drew ?_ | refine blk_alloc ?_ _)); refine blk_far ?_ NB537_625.out _; (with_reducible repeat (first | refine blk_drewN ?_ _ | refine blk_drew ?_ | refine blk_alloc ?_ _)); refine blk_far ?_ NB537_625.out _; (with_reducible repeat (first | refine blk_drewN ?_ _ | refine blk_drew ?_ | refine blk_alloc ?_ _)); refine blk_far ?_ NB537_625.out _; (with_reducible repeat (first | refine blk_drewN ?_ _ | refine blk_drew ?_ | refine blk_alloc ?_ _)); refine blk_far ?_ NB537_625.out _; (with_reducible repeat (first | refine blk_drewN ?_ _ | refine blk_drew ?_ | refine blk_alloc ?_ _)); refine blk_far ?_ NB537_625.out _; (with_reducible repeat (first | refine blk_drewN ?_ _ | refine blk_drew ?_ | refine blk_alloc ?_ _)); refine blk_far ?_ NB537_625.out _; (with_reducible repeat (first | refine blk_drewN ?_ _ | refine blk_drew ?_ | refine blk_alloc ?_ _)); refine blk_far ?_ NB537_625.out _; (with_reducible repeat (first | refine blk_drewN ?_ _ | refine blk_drew ?_ | refine blk_alloc ?_ _)); refine blk_far ?_ NB537_625.out _; (with_reducible repeat (first | refine blk_drewN ?_ _ | refine blk_drew ?_ | refine blk_alloc ?_ _)); refine blk_far ?_ NB537_625.out _; (with_reducible repeat (first | refine blk_drewN ?_ _ | refine blk_drew ?_ | refine blk_alloc ?_ _)); exact BK537.out) hb); replace BK581 := Aside0.mk (blk_below (g := gb581) (o := .cells #[.slice Ao29 t561.length co29, .int .i64 t564, .int .i64 t565, .int .i64 t566, .slice Ao32 t567.length co32, .bool t570, .slice Ao33 t571.length co33, .slice Ao34 t574.length co34, .slice Ao35 t577.length co35] 34 (0, 0)) (by (with_reducible repeat (first | refine blk_drewN ?_ _ | refine blk_drew ?_ | refine blk_alloc ?_ _)); refine blk_far ?_ NB581_625.out _; (with_reducible repeat (first | refine blk_drewN ?_ _ | refine blk_drew ?_ | refine blk_alloc ?_ _)); refine blk_far ?_ NB581_625.out _; (with_reducible repeat (first | refine blk_drewN ?_ _ | refine blk_drew ?_ | refine blk_alloc ?_ _)); refine blk_far ?_ NB581_625.out _; (with_reducible repeat (first | refine blk_drewN ?_ _ | refine blk_drew ?_ | refine blk_alloc ?_ _)); refine blk_far ?_ NB581_625.out _; (with_reducible repeat (first | refine blk_drewN ?_ _ | refine blk_drew ?_ | refine blk_alloc ?_ _)); refine blk_far ?_ NB581_625.out _; (with_reducible repeat (first | refine blk_drewN ?_ _ | refine blk_drew ?_ | refine blk_alloc ?_ _)); refine blk_far ?_ NB581_625.out _; (with_reducible repeat (first | refine blk_drewN ?_ _ | refine blk_drew ?_ | refine blk_alloc ?_ _)); refine blk_far ?_ NB581_625.out _; (with_reducible repeat (first | refine blk_drewN ?_ _ | refine blk_drew ?_ | refine blk_alloc ?_ _)); refine blk_far ?_ NB581_625.out _; (with_reducible repeat (first | refine blk_drewN ?_ _ | refine blk_drew ?_ | refine blk_alloc ?_ _)); refine blk_far ?_ NB581_625.out _; (with_reducible repeat (first | refine blk_drewN ?_ _ | refine blk_drew ?_ | refine blk_alloc ?_ _)); exact BK581.out) hb); replace BK601 := Aside0.mk (blk_below (g := gb601) (o := .cells #[.slice Ao39 t582.length co39, .int .i64 t585, .int .i64 t586, .int .i64 t587, .slice Ao43 t588.length co43, .bool t591, .slice Ao44 t592.length co44, .slice Ao45 t595.length co45, .slice Ao46 t598.length co46] 34 (0, 0)) (by (with_reducible repeat (first | refine blk_drewN ?_ _ | refine blk_drew ?_ | refine blk_alloc ?_ _)); refine blk_far ?_ NB601_625.out _; (with_reducible repeat (first | refine blk_drewN ?_ _ | refine blk_drew ?_ | refine blk_alloc ?_ _)); refine blk_far ?_ NB601_625.out _; (with_reducible repeat (first | refine blk_drewN ?_ _ | refine blk_drew ?_ | refine blk_alloc ?_ _)); refine blk_far ?_ NB601_625.out _; (with_reducible repeat (first | refine blk_drewN ?_ _ | refine blk_drew ?_ | refine blk_alloc ?_ _)); refine blk_far ?_ NB601_625.out _; (with_reducible repeat (first | refine blk_drewN ?_ _ | refine blk_drew ?_ | refine blk_alloc ?_ _)); refine blk_far ?_ NB601_625.out _; (with_reducible repeat (first | refine blk_drewN ?_ _ | refine blk_drew ?_ | refine blk_alloc ?_ _)); refine blk_far ?_ NB601_625.out _; (with_reducible repeat (first | refine blk_drewN ?_ _ | refine blk_drew ?_ | refine blk_alloc ?_ _)); refine blk_far ?_ NB601_625.out _; (with_reducible repeat (first | refine blk_drewN ?_ _ | refine blk_drew ?_ | refine blk_alloc ?_ _)); refine blk_far ?_ NB601_625.out _; (with_reducible repeat (first | refine blk_drewN ?_ _ | refine blk_drew ?_ | refine blk_alloc ?_ _)); refine blk_far ?_ NB601_625.out _; (with_reducible repeat (first | refine blk_drewN ?_ _ | refine blk_drew ?_ | refine blk_alloc ?_ _)); exact BK601.out) hb); replace BK625 := Aside0.mk (blk_below (g := gb625) (o := .cells #[.slice Ao52 t605.length co52, .int .i64 t608, .int .i64 t609, .int .i64 t610, .slice Ao57 t611.length co57, .bool t614, .slice Ao58 t615.length co58, .slice Ao59 t618.length co59, .slice Ao60 t621.length co60] 34 (0, 0)) (by (with_reducible repeat (first | refine blk_drewN ?_ _ | refine blk_drew ?_ | refine blk_alloc ?_ _)); refine blk_put (cs := #[.slice Ao52 t605.length co52, .int .i64 t608, .int .i64 t609, .int .i64 t610, .slice Ao57 t611.length co57, .bool t614, .slice Ao58 t615.length co58, .slice Ao59 t618.length co59, .slice none 0 0]) ?_ 8 _ rfl; (with_reducible repeat (first | refine blk_drewN ?_ _ | refine blk_drew ?_ | refine blk_alloc ?_ _)); refine blk_put (cs := #[.slice Ao52 t605.length co52, .int .i64 t608, .int .i64 t609, .int .i64 t610, .slice Ao57 t611.length co57, .bool t614, .slice Ao58 t615.length co58, .slice none 0 0, .slice none 0 0]) ?_ 7 _ rfl; (with_reducible repeat (first | refine blk_drewN ?_ _ | refine blk_drew ?_ | refine blk_alloc ?_ _)); refine blk_put (cs := #[.slice Ao52 t605.length co52, .int .i64 t608, .int .i64 t609, .int .i64 t610, .slice Ao57 t611.length co57, .bool t614, .slice none 0 0, .slice none 0 0, .slice none 0 0]) ?_ 6 _ rfl; (with_reducible repeat (first | refine blk_drewN ?_ _ | refine blk_drew ?_ | refine blk_alloc ?_ _)); refine blk_put (cs := #[.slice Ao52 t605.length co52, .int .i64 t608, .int .i64 t609, .int .i64 t610, .slice Ao57 t611.length co57, .bool false, .slice none 0 0, .slice none 0 0, .slice none 0 0]) ?_ 5 _ rfl; (with_reducible repeat (first | refine blk_drewN ?_ _ | refine blk_drew ?_ | refine blk_alloc ?_ _)); refine blk_put (cs := #[.slice Ao52 t605.length co52, .int .i64 t608, .int .i64 t609, .int .i64 t610, .slice none 0 0, .bool false, .slice none 0 0, .slice none 0 0, .slice none 0 0]) ?_ 4 _ rfl; (with_reducible repeat (first | refine blk_drewN ?_ _ | refine blk_drew ?_ | refine blk_alloc ?_ _)); refine blk_put (cs := #[.slice Ao52 t605.length co52, .int .i64 t608, .int .i64 t609, .int .i64 0, .slice none 0 0, .bool false, .slice none 0 0, .slice none 0 0, .slice none 0 0]) ?_ 3 _ rfl; (with_reducible repeat (first | refine blk_drewN ?_ _ | refine blk_drew ?_ | refine blk_alloc ?_ _)); refine blk_put (cs := #[.slice Ao52 t605.length co52, .int .i64 t608, .int .i64 0, .int .i64 0, .slice none 0 0, .bool false, .slice none 0 0, .slice none 0 0, .slice none 0 0]) ?_ 2 _ rfl; (with_reducible repeat (first | refine blk_drewN ?_ _ | refine blk_drew ?_ | refine blk_alloc ?_ _)); refine blk_put (cs := #[.slice Ao52 t605.length co52, .int .i64 0, .int .i64 0, .int .i64 0, .slice none 0 0, .bool false, .slice none 0 0, .slice none 0 0, .slice none 0 0]) ?_ 1 _ rfl; (with_reducible repeat (first | refine blk_drewN ?_ _ | refine blk_drew ?_ | refine blk_alloc ?_ _)); refine blk_put (cs := #[.slice none 0 0, .int .i64 0, .int .i64 0, .int .i64 0, .slice none 0 0, .bool false, .slice none 0 0, .slice none 0 0, .slice none 0 0]) ?_ 0 _ rfl; (with_reducible repeat (first | refine blk_drewN ?_ _ | refine blk_drew ?_ | refine blk_alloc ?_ _)); exact BK625.out) hb); replace HB := hs_ HB hb; (try clear hb hb2 hk hi)))
     go_meet
     case rel => exact ⟨_, ((t624 != t580)), e2_, H', ⟨by first | omega | exact Nat.le_refl _⟩, ⟨rp HO604⟩, ⟨ro HO563 (fun _ hk => ⟨hk.1.2, hk.2⟩)⟩, ⟨rp HO569⟩, ⟨ro HO573 (fun _ hk => ⟨hk.1.2, hk.2⟩)⟩, ⟨rp HO576⟩, ⟨rp HO579⟩, ⟨ro HO584 (fun _ hk => ⟨hk.1.2, hk.2⟩)⟩, ⟨rp HO590⟩, ⟨ro HO594 (fun _ hk => ⟨hk.1.2, hk.2⟩)⟩, ⟨rp HO597⟩, ⟨rp HO600⟩, ⟨ro HO607 (fun _ hk => ⟨hk.1.2, hk.2⟩)⟩, ⟨rp HO613⟩, ⟨ro HO617 (fun _ hk => ⟨hk.1.2, hk.2⟩)⟩, ⟨rp HO620⟩, ⟨rp HO623⟩, ⟨bk BK537⟩, ⟨bk BK581⟩, ⟨bk BK601⟩, ⟨bk BK625⟩, ⟨bb HB⟩⟩
    ·replace c62 := Bool.eq_false_iff.mpr c62
     subst c62
     rw [if_neg (show ¬ (false = true) by decide)] at H
     have H' := Aside0.mk H
     clear H
     have hnb71 := NB625_537.out
     have hnc71 := NB537_625.out
     have hnb72 := NB625_581.out
     have hnc72 := NB581_625.out
     have hnb73 := NB625_601.out
     have hnc73 := NB601_625.out
     have ⟨hcz74_0, hcz74_1, hcz74_2, hcz74_3, hcz74_4, hcz74_5, hcz74_6, hcz74_7, hcz74_8, hfz74_0, hfz74_1, hfz74_2, hfz74_3, hfz74_4, hfz74_5, hfz74_6, hfz74_7, hfz74_8⟩ := rz9 BK625
     have hnb75 := NB581_537.out
     have hnc75 := NB537_581.out
     have hnb76 := NB581_601.out
     have hnc76 := NB601_581.out
     have ⟨hcz77_0, hcz77_1, hcz77_2, hcz77_3, hcz77_4, hcz77_5, hcz77_6, hcz77_7, hcz77_8, hfz77_0, hfz77_1, hfz77_2, hfz77_3, hfz77_4, hfz77_5, hfz77_6, hfz77_7, hfz77_8⟩ := rz9 BK581
     go_wp2_with (first | ((with_reducible refine gate_callee (f := 11) rfl ?_); refine gl (some 45) Try.func11 #[.agg #[.slice Ao52 t605.length co52, .int .i64 t608, .int .i64 t609, .int .i64 t610, .slice Ao57 t611.length co57, .bool t614, .slice Ao58 t615.length co58, .slice Ao59 t618.length co59, .slice Ao60 t621.length co60], .agg #[.slice Ao29 t561.length co29, .int .i64 t564, .int .i64 t565, .int .i64 t566, .slice Ao32 t567.length co32, .bool t570, .slice Ao33 t571.length co33, .slice Ao34 t574.length co34, .slice Ao35 t577.length co35]] ?_; (with_reducible refine (laws_eqBook.calls k _ _ t605 t608 t609 t610 _ _ t611 t614 _ _ t615 _ _ t618 _ _ t621 _ _ t561 t564 t565 t566 _ _ t567 t570 _ _ t571 _ _ t574 _ _ t577 false _ ?side1 ?side2 ?side3 ?side4 ?side5 ?side6 ?side7 ?side8 ?side9 ?side10 ?side11 ?side12 ?side13 ?side14 ?side15 ?side16 ?side17 ?side18 ?side19 ?side20 A61.out).mono ?_); (case side1 => exact cf HO607 BK625); (case side2 => exact cl HO607); (case side3 => exact cf HO613 BK625); (case side4 => exact cl HO613); (case side5 => exact cf HO617 BK625); (case side6 => exact cl HO617); (case side7 => exact cf HO620 BK625); (case side8 => exact cl HO620); (case side9 => exact cf HO623 BK625); (case side10 => exact cl HO623); (case side11 => exact cf HO563 BK625); (case side12 => exact cl HO563); (case side13 => exact cf HO569 BK625); (case side14 => exact cl HO569); (case side15 => exact cf HO573 BK625); (case side16 => exact cl HO573); (case side17 => exact cf HO576 BK625); (case side18 => exact cl HO576); (case side19 => exact cf HO579 BK625); (case side20 => exact cl HO579); rintro e w78 ⟨rfl, hb⟩; refine ⟨_, rfl, ?_⟩; replace HO541 := kf HO541 BK625 hb; replace HO547 := kf HO547 BK625 hb; replace HO551 := kf HO551 BK625 hb; replace HO554 := kf HO554 BK625 hb; replace HO557 := kf HO557 BK625 hb; replace HO560 := kf HO560 BK625 hb; replace HO563 := kf HO563 BK625 hb; replace HO569 := kf HO569 BK625 hb; replace HO573 := kf HO573 BK625 hb; replace HO576 := kf HO576 BK625 hb; replace HO579 := kf HO579 BK625 hb; replace HO584 := kf HO584 BK625 hb; replace HO590 := kf HO590 BK625 hb; replace HO594 := kf HO594 BK625 hb; replace HO597 := kf HO597 BK625 hb; replace HO600 := kf HO600 BK625 hb; replace HO604 := kf HO604 BK625 hb; replace HO607 := kf HO607 BK625 hb; replace HO613 := kf HO613 BK625 hb; replace HO617 := kf HO617 BK625 hb; replace HO620 := kf HO620 BK625 hb; replace HO623 := kf HO623 BK625 hb; replace BK537 := Aside0.mk (blk_below (g := gb537) (o := .cells #[.slice A0_0 l0_0.length c0_0, .int .i64 a0_1, .int .i64 a0_2, .int .i64 a0_3, .slice A0_4 l0_4.length c0_4, .bool a0_5, .slice A0_6 l0_6.length c0_6, .slice A0_7 l0_7.length c0_7, .slice A0_8 l0_8.length c0_8] 28 (0, 0)) (by (with_reducible repeat (first | refine blk_drewN ?_ _ | refine blk_drew ?_ | refine blk_alloc ?_ _)); refine blk_far ?_ NB537_625.out _; (with_reducible repeat (first | refine blk_drewN ?_ _ | refine blk_drew ?_ | refine blk_alloc ?_ _)); refine blk_far ?_ NB537_625.out _; (with_reducible repeat (first | refine blk_drewN ?_ _ | refine blk_drew ?_ | refine blk_alloc ?_ _)); refine blk_far ?_ NB537_625.out _; (with_reducible repeat (first | refine blk_drewN ?_ _ | refine blk_drew ?_ | refine blk_alloc ?_ _)); refine blk_far ?_ NB537_625.out _; (with_reducible repeat (first | refine blk_drewN ?_ _ | refine blk_drew ?_ | refine blk_alloc ?_ _)); refine blk_far ?_ NB537_625.out _; (with_reducible repeat (first | refine blk_drewN ?_ _ | refine blk_drew ?_ | refine blk_alloc ?_ _)); refine blk_far ?_ NB537_625.out _; (with_reducible repeat (first | refine blk_drewN ?_ _ | refine blk_drew ?_ | refine blk_alloc ?_ _)); refine blk_far ?_ NB537_625.out _; (with_reducible repeat (first | refine blk_drewN ?_ _ | refine blk_drew ?_ | refine blk_alloc ?_ _)); refine blk_far ?_ NB537_625.out _; (with_reducible repeat (first | refine blk_drewN ?_ _ | refine blk_drew ?_ | refine blk_alloc ?_ _)); refine blk_far ?_ NB537_625.out _; (with_reducible repeat (first | refine blk_drewN ?_ _ | refine blk_drew ?_ | refine blk_alloc ?_ _)); exact BK537.out) hb); replace BK581 := Aside0.mk (blk_below (g := gb581) (o := .cells #[.slice Ao29 t561.length co29, .int .i64 t564, .int .i64 t565, .int .i64 t566, .slice Ao32 t567.length co32, .bool t570, .slice Ao33 t571.length co33, .slice Ao34 t574.length co34, .slice Ao35 t577.length co35] 34 (0, 0)) (by (with_reducible repeat (first | refine blk_drewN ?_ _ | refine blk_drew ?_ | refine blk_alloc ?_ _)); refine blk_far ?_ NB581_625.out _; (with_reducible repeat (first | refine blk_drewN ?_ _ | refine blk_drew ?_ | refine blk_alloc ?_ _)); refine blk_far ?_ NB581_625.out _; (with_reducible repeat (first | refine blk_drewN ?_ _ | refine blk_drew ?_ | refine blk_alloc ?_ _)); refine blk_far ?_ NB581_625.out _; (with_reducible repeat (first | refine blk_drewN ?_ _ | refine blk_drew ?_ | refine blk_alloc ?_ _)); refine blk_far ?_ NB581_625.out _; (with_reducible repeat (first | refine blk_drewN ?_ _ | refine blk_drew ?_ | refine blk_alloc ?_ _)); refine blk_far ?_ NB581_625.out _; (with_reducible repeat (first | refine blk_drewN ?_ _ | refine blk_drew ?_ | refine blk_alloc ?_ _)); refine blk_far ?_ NB581_625.out _; (with_reducible repeat (first | refine blk_drewN ?_ _ | refine blk_drew ?_ | refine blk_alloc ?_ _)); refine blk_far ?_ NB581_625.out _; (with_reducible repeat (first | refine blk_drewN ?_ _ | refine blk_drew ?_ | refine blk_alloc ?_ _)); refine blk_far ?_ NB581_625.out _; (with_reducible repeat (first | refine blk_drewN ?_ _ | refine blk_drew ?_ | refine blk_alloc ?_ _)); refine blk_far ?_ NB581_625.out _; (with_reducible repeat (first | refine blk_drewN ?_ _ | refine blk_drew ?_ | refine blk_alloc ?_ _)); exact BK581.out) hb); replace BK601 := Aside0.mk (blk_below (g := gb601) (o := .cells #[.slice Ao39 t582.length co39, .int .i64 t585, .int .i64 t586, .int .i64 t587, .slice Ao43 t588.length co43, .bool t591, .slice Ao44 t592.length co44, .slice Ao45 t595.length co45, .slice Ao46 t598.length co46] 34 (0, 0)) (by (with_reducible repeat (first | refine blk_drewN ?_ _ | refine blk_drew ?_ | refine blk_alloc ?_ _)); refine blk_far ?_ NB601_625.out _; (with_reducible repeat (first | refine blk_drewN ?_ _ | refine blk_drew ?_ | refine blk_alloc ?_ _)); refine blk_far ?_ NB601_625.out _; (with_reducible repeat (first | refine blk_drewN ?_ _ | refine blk_drew ?_ | refine blk_alloc ?_ _)); refine blk_far ?_ NB601_625.out _; (with_reducible repeat (first | refine blk_drewN ?_ _ | refine blk_drew ?_ | refine blk_alloc ?_ _)); refine blk_far ?_ NB601_625.out _; (with_reducible repeat (first | refine blk_drewN ?_ _ | refine blk_drew ?_ | refine blk_alloc ?_ _)); refine blk_far ?_ NB601_625.out _; (with_reducible repeat (first | refine blk_drewN ?_ _ | refine blk_drew ?_ | refine blk_alloc ?_ _)); refine blk_far ?_ NB601_625.out _; (with_reducible repeat (first | refine blk_drewN ?_ _ | refine blk_drew ?_ | refine blk_alloc ?_ _)); refine blk_far ?_ NB601_625.out _; (with_reducible repeat (first | refine blk_drewN ?_ _ | refine blk_drew ?_ | refine blk_alloc ?_ _)); refine blk_far ?_ NB601_625.out _; (with_reducible repeat (first | refine blk_drewN ?_ _ | refine blk_drew ?_ | refine blk_alloc ?_ _)); refine blk_far ?_ NB601_625.out _; (with_reducible repeat (first | refine blk_drewN ?_ _ | refine blk_drew ?_ | refine blk_alloc ?_ _)); exact BK601.out) hb); replace BK625 := Aside0.mk (blk_below (g := gb625) (o := .cells #[.slice Ao52 t605.length co52, .int .i64 t608, .int .i64 t609, .int .i64 t610, .slice Ao57 t611.length co57, .bool t614, .slice Ao58 t615.length co58, .slice Ao59 t618.length co59, .slice Ao60 t621.length co60] 34 (0, 0)) (by (with_reducible repeat (first | refine blk_drewN ?_ _ | refine blk_drew ?_ | refine blk_alloc ?_ _)); refine blk_put (cs := #[.slice Ao52 t605.length co52, .int .i64 t608, .int .i64 t609, .int .i64 t610, .slice Ao57 t611.length co57, .bool t614, .slice Ao58 t615.length co58, .slice Ao59 t618.length co59, .slice none 0 0]) ?_ 8 _ rfl; (with_reducible repeat (first | refine blk_drewN ?_ _ | refine blk_drew ?_ | refine blk_alloc ?_ _)); refine blk_put (cs := #[.slice Ao52 t605.length co52, .int .i64 t608, .int .i64 t609, .int .i64 t610, .slice Ao57 t611.length co57, .bool t614, .slice Ao58 t615.length co58, .slice none 0 0, .slice none 0 0]) ?_ 7 _ rfl; (with_reducible repeat (first | refine blk_drewN ?_ _ | refine blk_drew ?_ | refine blk_alloc ?_ _)); refine blk_put (cs := #[.slice Ao52 t605.length co52, .int .i64 t608, .int .i64 t609, .int .i64 t610, .slice Ao57 t611.length co57, .bool t614, .slice none 0 0, .slice none 0 0, .slice none 0 0]) ?_ 6 _ rfl; (with_reducible repeat (first | refine blk_drewN ?_ _ | refine blk_drew ?_ | refine blk_alloc ?_ _)); refine blk_put (cs := #[.slice Ao52 t605.length co52, .int .i64 t608, .int .i64 t609, .int .i64 t610, .slice Ao57 t611.length co57, .bool false, .slice none 0 0, .slice none 0 0, .slice none 0 0]) ?_ 5 _ rfl; (with_reducible repeat (first | refine blk_drewN ?_ _ | refine blk_drew ?_ | refine blk_alloc ?_ _)); refine blk_put (cs := #[.slice Ao52 t605.length co52, .int .i64 t608, .int .i64 t609, .int .i64 t610, .slice none 0 0, .bool false, .slice none 0 0, .slice none 0 0, .slice none 0 0]) ?_ 4 _ rfl; (with_reducible repeat (first | refine blk_drewN ?_ _ | refine blk_drew ?_ | refine blk_alloc ?_ _)); refine blk_put (cs := #[.slice Ao52 t605.length co52, .int .i64 t608, .int .i64 t609, .int .i64 0, .slice none 0 0, .bool false, .slice none 0 0, .slice none 0 0, .slice none 0 0]) ?_ 3 _ rfl; (with_reducible repeat (first | refine blk_drewN ?_ _ | refine blk_drew ?_ | refine blk_alloc ?_ _)); refine blk_put (cs := #[.slice Ao52 t605.length co52, .int .i64 t608, .int .i64 0, .int .i64 0, .slice none 0 0, .bool false, .slice none 0 0, .slice none 0 0, .slice none 0 0]) ?_ 2 _ rfl; (with_reducible repeat (first | refine blk_drewN ?_ _ | refine blk_drew ?_ | refine blk_alloc ?_ _)); refine blk_put (cs := #[.slice Ao52 t605.length co52, .int .i64 0, .int .i64 0, .int .i64 0, .slice none 0 0, .bool false, .slice none 0 0, .slice none 0 0, .slice none 0 0]) ?_ 1 _ rfl; (with_reducible repeat (first | refine blk_drewN ?_ _ | refine blk_drew ?_ | refine blk_alloc ?_ _)); refine blk_put (cs := #[.slice none 0 0, .int .i64 0, .int .i64 0, .int .i64 0, .slice none 0 0, .bool false, .slice none 0 0, .slice none 0 0, .slice none 0 0]) ?_ 0 _ rfl; (with_reducible repeat (first | refine blk_drewN ?_ _ | refine blk_drew ?_ | refine blk_alloc ?_ _)); exact BK625.out) hb); replace HB := hs_ HB hb; (try clear hb hb2 hk hi)))
     go_meet
     case rel => exact ⟨_, (true), e2_, H', ⟨by first | omega | exact Nat.le_refl _⟩, ⟨rp HO604⟩, ⟨ro HO563 (fun _ hk => ⟨hk.1.2, hk.2⟩)⟩, ⟨rp HO569⟩, ⟨ro HO573 (fun _ hk => ⟨hk.1.2, hk.2⟩)⟩, ⟨rp HO576⟩, ⟨rp HO579⟩, ⟨ro HO584 (fun _ hk => ⟨hk.1.2, hk.2⟩)⟩, ⟨rp HO590⟩, ⟨ro HO594 (fun _ hk => ⟨hk.1.2, hk.2⟩)⟩, ⟨rp HO597⟩, ⟨rp HO600⟩, ⟨ro HO607 (fun _ hk => ⟨hk.1.2, hk.2⟩)⟩, ⟨rp HO613⟩, ⟨ro HO617 (fun _ hk => ⟨hk.1.2, hk.2⟩)⟩, ⟨rp HO620⟩, ⟨rp HO623⟩, ⟨bk BK537⟩, ⟨bk BK581⟩, ⟨bk BK601⟩, ⟨bk BK625⟩, ⟨bb HB⟩⟩
   case rest =>
    clear HC17
    (try clear c1)
    (try clear p2)
    (try clear c3)
    (try clear c4)
    (try clear c5)
    (try clear c5b0)
    (try clear c5b1)
    (try clear c6)
    (try clear c7)
    (try clear c8)
    (try clear c9)
    (try clear c10)
    (try clear c10b0)
    (try clear c10b1)
    (try clear c11)
    (try clear c30)
    (try clear c40)
    (try clear c41)
    (try clear c53)
    (try clear c54)
    (try clear c55)
    (try clear c62)
    (try clear c63)
    (try clear c64)
    (try clear c65)
    (try clear c67)
    (try clear c68)
    (try clear c71)
    (try clear c72)
    (try clear c73)
    (try clear c75)
    (try clear c76)
    (try clear hcz18_0 hcz18_1 hcz18_2 hcz18_3 hcz18_4 hcz18_5 hcz18_6 hcz18_7 hcz18_8)
    (try clear hcz31_0 hcz31_1 hcz31_2 hcz31_3 hcz31_4 hcz31_5 hcz31_6 hcz31_7 hcz31_8)
    (try clear hcz36_0 hcz36_1 hcz36_2 hcz36_3 hcz36_4 hcz36_5 hcz36_6 hcz36_7 hcz36_8)
    (try clear hcz42_0 hcz42_1 hcz42_2 hcz42_3 hcz42_4 hcz42_5 hcz42_6 hcz42_7 hcz42_8)
    (try clear hcz48_0 hcz48_1 hcz48_2 hcz48_3 hcz48_4 hcz48_5 hcz48_6 hcz48_7 hcz48_8)
    (try clear hcz56_0 hcz56_1 hcz56_2 hcz56_3 hcz56_4 hcz56_5 hcz56_6 hcz56_7 hcz56_8)
    (try clear hcz66_0 hcz66_1 hcz66_2 hcz66_3 hcz66_4 hcz66_5 hcz66_6 hcz66_7 hcz66_8)
    (try clear hcz69_0 hcz69_1 hcz69_2 hcz69_3 hcz69_4 hcz69_5 hcz69_6 hcz69_7 hcz69_8)
    (try clear hcz74_0 hcz74_1 hcz74_2 hcz74_3 hcz74_4 hcz74_5 hcz74_6 hcz74_7 hcz74_8)
    (try clear hcz77_0 hcz77_1 hcz77_2 hcz77_3 hcz77_4 hcz77_5 hcz77_6 hcz77_7 hcz77_8)
    (try clear hcz8_0 hcz8_1 hcz8_2 hcz8_3 hcz8_4 hcz8_5 hcz8_6 hcz8_7 hcz8_8)
    (try clear hfz18_0 hfz18_1 hfz18_2 hfz18_3 hfz18_4 hfz18_5 hfz18_6 hfz18_7 hfz18_8)
    (try clear hfz31_0 hfz31_1 hfz31_2 hfz31_3 hfz31_4 hfz31_5 hfz31_6 hfz31_7 hfz31_8)
    (try clear hfz36_0 hfz36_1 hfz36_2 hfz36_3 hfz36_4 hfz36_5 hfz36_6 hfz36_7 hfz36_8)
    (try clear hfz42_0 hfz42_1 hfz42_2 hfz42_3 hfz42_4 hfz42_5 hfz42_6 hfz42_7 hfz42_8)
    (try clear hfz48_0 hfz48_1 hfz48_2 hfz48_3 hfz48_4 hfz48_5 hfz48_6 hfz48_7 hfz48_8)
    (try clear hfz56_0 hfz56_1 hfz56_2 hfz56_3 hfz56_4 hfz56_5 hfz56_6 hfz56_7 hfz56_8)
    (try clear hfz66_0 hfz66_1 hfz66_2 hfz66_3 hfz66_4 hfz66_5 hfz66_6 hfz66_7 hfz66_8)
    (try clear hfz69_0 hfz69_1 hfz69_2 hfz69_3 hfz69_4 hfz69_5 hfz69_6 hfz69_7 hfz69_8)
    (try clear hfz74_0 hfz74_1 hfz74_2 hfz74_3 hfz74_4 hfz74_5 hfz74_6 hfz74_7 hfz74_8)
    (try clear hfz77_0 hfz77_1 hfz77_2 hfz77_3 hfz77_4 hfz77_5 hfz77_6 hfz77_7 hfz77_8)
    (try clear hfz8_0 hfz8_1 hfz8_2 hfz8_3 hfz8_4 hfz8_5 hfz8_6 hfz8_7 hfz8_8)
    obtain ⟨kq, x51_16, rfl, HA, HJ16, HO_9, HO_582000, HO_582004, HO_582006, HO_582007, HO_582008, HO_602000, HO_602004, HO_602006, HO_602007, HO_602008, HO_626000, HO_626004, HO_626006, HO_626007, HO_626008, BK537, BK581, BK601, BK625, HB⟩ := hcut
    cases kq with
    | zero => exact absurd HA.out (by simp [laws_FnExactWithOutcome.j0])
    | succ kj16 =>
     have H := HA.out
     clear HA
     simp only [laws_FnExactWithOutcome.j0] at H
     by_cases c79 : x51_16 = true
     ·subst c79
      rw [if_pos rfl] at H
      obtain rfl := Option.some.inj H
      go_wp2
      go_ret
      exact ⟨ee, bb HB⟩
     ·replace c79 := Bool.eq_false_iff.mpr c79
      subst c79
      rw [if_neg (show ¬ (false = true) by decide)] at H
      replace H := Option.bind_eq_some_iff.mp H
      obtain ⟨⟨t627, t630, t631, t632, t633, t636, t637, t640, t643⟩, A800, H⟩ := H
      try dsimp only at H
      have A80 := Aside0.mk A800
      clear A800
      replace H := Option.bind_eq_some_iff.mp H
      obtain ⟨t646, A810, H⟩ := H
      try dsimp only at H
      have A81 := Aside0.mk A810
      clear A810
      have HC82 := Aside0.mk H
      clear H
      try go_wp2
      replace HO_9 := Aside0.mk (Kd.R_drew HO_9.out)
      replace HO_582000 := Aside0.mk (Kd.R_drew HO_582000.out)
      replace HO_582004 := Aside0.mk (Kd.R_drew HO_582004.out)
      replace HO_582006 := Aside0.mk (Kd.R_drew HO_582006.out)
      replace HO_582007 := Aside0.mk (Kd.R_drew HO_582007.out)
      replace HO_582008 := Aside0.mk (Kd.R_drew HO_582008.out)
      replace HO_602000 := Aside0.mk (Kd.R_drew HO_602000.out)
      replace HO_602004 := Aside0.mk (Kd.R_drew HO_602004.out)
      replace HO_602006 := Aside0.mk (Kd.R_drew HO_602006.out)
      replace HO_602007 := Aside0.mk (Kd.R_drew HO_602007.out)
      replace HO_602008 := Aside0.mk (Kd.R_drew HO_602008.out)
      replace HO_626000 := Aside0.mk (Kd.R_drew HO_626000.out)
      replace HO_626004 := Aside0.mk (Kd.R_drew HO_626004.out)
      replace HO_626006 := Aside0.mk (Kd.R_drew HO_626006.out)
      replace HO_626007 := Aside0.mk (Kd.R_drew HO_626007.out)
      replace HO_626008 := Aside0.mk (Kd.R_drew HO_626008.out)
      replace BK537 := Aside0.mk (blk_drew BK537.out)
      replace BK581 := Aside0.mk (blk_drew BK581.out)
      replace BK601 := Aside0.mk (blk_drew BK601.out)
      replace BK625 := Aside0.mk (blk_drew BK625.out)
      replace HB := Aside0.mk (below_drew1 HB.out)
      refine start_ (n := 5) (S := fun w' => w'.cell? ⟨gb601, 0, none⟩ = some (.slice Ao39 t582.length co39) ∧ w'.cell? ⟨gb601, 1, none⟩ = some (.int .i64 t585) ∧ w'.cell? ⟨gb601, 2, none⟩ = some (.int .i64 t586) ∧ w'.cell? ⟨gb601, 3, none⟩ = some (.int .i64 t587) ∧ w'.cell? ⟨gb601, 4, none⟩ = some (.slice Ao43 t588.length co43) ∧ w'.cell? ⟨gb601, 5, none⟩ = some (.bool t591) ∧ w'.cell? ⟨gb601, 6, none⟩ = some (.slice Ao44 t592.length co44) ∧ w'.cell? ⟨gb601, 7, none⟩ = some (.slice Ao45 t595.length co45) ∧ w'.cell? ⟨gb601, 8, none⟩ = some (.slice Ao46 t598.length co46) ∧ w'.cell? ⟨gb537, 0, none⟩ = some (.slice A0_0 l0_0.length c0_0) ∧ w'.cell? ⟨gb537, 1, none⟩ = some (.int .i64 a0_1) ∧ w'.cell? ⟨gb537, 2, none⟩ = some (.int .i64 a0_2) ∧ w'.cell? ⟨gb537, 3, none⟩ = some (.int .i64 a0_3) ∧ w'.cell? ⟨gb537, 4, none⟩ = some (.slice A0_4 l0_4.length c0_4) ∧ w'.cell? ⟨gb537, 5, none⟩ = some (.bool a0_5) ∧ w'.cell? ⟨gb537, 6, none⟩ = some (.slice A0_6 l0_6.length c0_6) ∧ w'.cell? ⟨gb537, 7, none⟩ = some (.slice A0_7 l0_7.length c0_7) ∧ w'.cell? ⟨gb537, 8, none⟩ = some (.slice A0_8 l0_8.length c0_8)) (ds := []) #[false, false, false, false, false] (by kernel_rfl) rfl rfl ⟨(blk_cell BK601.out 0).trans rfl, (blk_cell BK601.out 1).trans rfl, (blk_cell BK601.out 2).trans rfl, (blk_cell BK601.out 3).trans rfl, (blk_cell BK601.out 4).trans rfl, (blk_cell BK601.out 5).trans rfl, (blk_cell BK601.out 6).trans rfl, (blk_cell BK601.out 7).trans rfl, (blk_cell BK601.out 8).trans rfl, (blk_cell BK537.out 0).trans rfl, (blk_cell BK537.out 1).trans rfl, (blk_cell BK537.out 2).trans rfl, (blk_cell BK537.out 3).trans rfl, (blk_cell BK537.out 4).trans rfl, (blk_cell BK537.out 5).trans rfl, (blk_cell BK537.out 6).trans rfl, (blk_cell BK537.out 7).trans rfl, (blk_cell BK537.out 8).trans rfl⟩ (fun hHeld => ?_)
      generalize wc.drew = w83 at HO_9 HO_582000 HO_582004 HO_582006 HO_582007 HO_582008 HO_602000 HO_602004 HO_602006 HO_602007 HO_602008 HO_626000 HO_626004 HO_626006 HO_626007 HO_626008 BK537 BK581 BK601 BK625 HB hHeld ⊢
      refine take_ (i := 0) (N := some 52) (v := ?_) (a' := ?_) #[true, false, false, false, false] rfl rfl (by kernel_rfl) (fun _ _ _ h => h) (Or.inl ⟨by rfl, ?_⟩) hHeld ?_ ?_
      rotate_left
      ·rintro w' ⟨s0, s1, s2, s3, s4, s5, s6, s7, s8, s9, s10, s11, s12, s13, s14, s15, s16, s17⟩
       go_simp
       with_reducible rfl
      rotate_left
      ·simp only [Act.put, List.setIfInBounds_toArray, List.set_cons_zero, List.set_cons_succ, i64_w, i32_w]
       rfl
      refine take_ (i := 1) (N := some 53) (v := ?_) (a' := ?_) #[true, true, false, false, false] rfl rfl (by kernel_rfl) (fun _ _ _ h => h) (Or.inl ⟨by rfl, ?_⟩) hHeld ?_ ?_
      rotate_left
      ·rintro w' ⟨s0, s1, s2, s3, s4, s5, s6, s7, s8, s9, s10, s11, s12, s13, s14, s15, s16, s17⟩
       go_simp
       with_reducible rfl
      rotate_left
      ·simp only [Act.put, List.setIfInBounds_toArray, List.set_cons_zero, List.set_cons_succ, i64_w, i32_w]
       rfl
      refine one_ (i := 2) (N := some 54) #[true, true, true, false, false] rfl rfl (by kernel_rfl) (by decide) (fun K hK => ?_)
      refine goes_ Try.func8 (by kernel_rfl) rfl #[.agg #[.slice A0_0 l0_0.length c0_0, .int .i64 a0_1, .int .i64 a0_2, .int .i64 a0_3, .slice A0_4 l0_4.length c0_4, .bool a0_5, .slice A0_6 l0_6.length c0_6, .slice A0_7 l0_7.length c0_7, .slice A0_8 l0_8.length c0_8]] (by rfl) rfl rfl (by (try simp only [List.map_toArray, List.map_cons, List.map_nil]); first | done | rfl | (simp only [List.length_drop, List.length_take]; rfl)) ?_
      with_reducible refine (laws_toBook.calls kj16 _ _ l0_0 a0_1 a0_2 a0_3 _ _ l0_4 a0_5 _ _ l0_6 _ _ l0_7 _ _ l0_8 t627 t630 t631 t632 t633 t636 t637 t640 t643 _ ?side1 ?side2 ?side3 ?side4 ?side5 ?side6 ?side7 ?side8 ?side9 ?side10 A80.out).mono ?_
      (case side1 => exact cc HR0_0 HB)
      (case side2 => exact HC0_0.out)
      (case side3 => exact cc HR0_4 HB)
      (case side4 => exact HC0_4.out)
      (case side5 => exact cc HR0_6 HB)
      (case side6 => exact HC0_6.out)
      (case side7 => exact cc HR0_7 HB)
      (case side8 => exact HC0_7.out)
      (case side9 => exact cc HR0_8 HB)
      (case side10 => exact HC0_8.out)
      rintro e w84 ⟨v628, v634, v638, v641, v644, rfl, ho0, ho1, ho2, ho3, ho4, hb⟩
      refine ⟨_, rfl, ?_⟩
      have HO629 := Aside0.mk (Kd.R_lower (Kd.R_new' (Kd.R_new' (Kd.R_new' ho0 (rt HO_582000)) (rt HO_602000)) (rt HO_626000)) (below_size (bb HB)))
      replace HO_582000 := ke HO_582000 ho0 hb
      replace HO_602000 := ke HO_602000 ho0 hb
      replace HO_626000 := ke HO_626000 ho0 hb
      have HO635 := Aside0.mk (Kd.R_lower (Kd.R_new' (Kd.R_new' (Kd.R_new' (Kd.R_new' (Kd.R_new' (Kd.R_new' (Kd.R_new' (Kd.R_new' (Kd.R_new' (Kd.R_new' ho1 (rt HO_9)) (rt HO_582004)) (rt HO_582007)) (rt HO_582008)) (rt HO_602004)) (rt HO_602007)) (rt HO_602008)) (rt HO_626004)) (rt HO_626007)) (rt HO_626008)) (below_size (bb HB)))
      have HO639 := Aside0.mk (Kd.R_lower (Kd.R_new' (Kd.R_new' (Kd.R_new' ho2 (rt HO_582006)) (rt HO_602006)) (rt HO_626006)) (below_size (bb HB)))
      replace HO_582006 := ke HO_582006 ho2 hb
      replace HO_602006 := ke HO_602006 ho2 hb
      replace HO_626006 := ke HO_626006 ho2 hb
      have HO642 := Aside0.mk (Kd.R_lower (Kd.R_new' (Kd.R_new' (Kd.R_new' (Kd.R_new' (Kd.R_new' (Kd.R_new' (Kd.R_new' (Kd.R_new' (Kd.R_new' (Kd.R_new' ho3 (rt HO_9)) (rt HO_582004)) (rt HO_582007)) (rt HO_582008)) (rt HO_602004)) (rt HO_602007)) (rt HO_602008)) (rt HO_626004)) (rt HO_626007)) (rt HO_626008)) (below_size (bb HB)))
      have HO645 := Aside0.mk (Kd.R_lower (Kd.R_new' (Kd.R_new' (Kd.R_new' (Kd.R_new' (Kd.R_new' (Kd.R_new' (Kd.R_new' (Kd.R_new' (Kd.R_new' (Kd.R_new' ho4 (rt HO_9)) (rt HO_582004)) (rt HO_582007)) (rt HO_582008)) (rt HO_602004)) (rt HO_602007)) (rt HO_602008)) (rt HO_626004)) (rt HO_626007)) (rt HO_626008)) (below_size (bb HB)))
      replace HO_9 := Aside0.mk (Kd.R_mono (Kd.R_told (Kd.R_told (Kd.R_told (Kd.R_old (rr HO_9) hb) (Kd.R_base ho1)) (Kd.R_base ho3)) (Kd.R_base ho4)) (fun _ h_ => h_.1))
      replace HO_582004 := Aside0.mk (Kd.R_mono (Kd.R_told (Kd.R_told (Kd.R_told (Kd.R_old (rr HO_582004) hb) (Kd.R_base ho1)) (Kd.R_base ho3)) (Kd.R_base ho4)) (fun _ h_ => h_.1))
      replace HO_582007 := Aside0.mk (Kd.R_mono (Kd.R_told (Kd.R_told (Kd.R_told (Kd.R_old (rr HO_582007) hb) (Kd.R_base ho1)) (Kd.R_base ho3)) (Kd.R_base ho4)) (fun _ h_ => h_.1))
      replace HO_582008 := Aside0.mk (Kd.R_mono (Kd.R_told (Kd.R_told (Kd.R_told (Kd.R_old (rr HO_582008) hb) (Kd.R_base ho1)) (Kd.R_base ho3)) (Kd.R_base ho4)) (fun _ h_ => h_.1))
      replace HO_602004 := Aside0.mk (Kd.R_mono (Kd.R_told (Kd.R_told (Kd.R_told (Kd.R_old (rr HO_602004) hb) (Kd.R_base ho1)) (Kd.R_base ho3)) (Kd.R_base ho4)) (fun _ h_ => h_.1))
      replace HO_602007 := Aside0.mk (Kd.R_mono (Kd.R_told (Kd.R_told (Kd.R_told (Kd.R_old (rr HO_602007) hb) (Kd.R_base ho1)) (Kd.R_base ho3)) (Kd.R_base ho4)) (fun _ h_ => h_.1))
      replace HO_602008 := Aside0.mk (Kd.R_mono (Kd.R_told (Kd.R_told (Kd.R_told (Kd.R_old (rr HO_602008) hb) (Kd.R_base ho1)) (Kd.R_base ho3)) (Kd.R_base ho4)) (fun _ h_ => h_.1))
      replace HO_626004 := Aside0.mk (Kd.R_mono (Kd.R_told (Kd.R_told (Kd.R_told (Kd.R_old (rr HO_626004) hb) (Kd.R_base ho1)) (Kd.R_base ho3)) (Kd.R_base ho4)) (fun _ h_ => h_.1))
      replace HO_626007 := Aside0.mk (Kd.R_mono (Kd.R_told (Kd.R_told (Kd.R_told (Kd.R_old (rr HO_626007) hb) (Kd.R_base ho1)) (Kd.R_base ho3)) (Kd.R_base ho4)) (fun _ h_ => h_.1))
      replace HO_626008 := Aside0.mk (Kd.R_mono (Kd.R_told (Kd.R_told (Kd.R_told (Kd.R_old (rr HO_626008) hb) (Kd.R_base ho1)) (Kd.R_base ho3)) (Kd.R_base ho4)) (fun _ h_ => h_.1))
      replace BK537 := kb BK537 hb
      replace BK581 := kb BK581 hb
      replace BK601 := kb BK601 hb
      replace BK625 := kb BK625 hb
      replace HB := hs_ HB hb
      (try clear hb hb2 hk hi ho0 ho1 ho2 ho3 ho4)
      obtain ⟨Ao85, co85, eo85⟩ := Kd.R_slice HO629.out
      (first | subst eo85 | (injection eo85 with f1_ f2_ f3_; have f4_ := f1_.symm; have f5_ := f3_.symm; clear f1_ f2_ f3_; subst f4_; subst f5_))
      obtain ⟨Ao86, co86, eo86⟩ := Kd.R_slice HO635.out
      (first | subst eo86 | (injection eo86 with f1_ f2_ f3_; have f4_ := f1_.symm; have f5_ := f3_.symm; clear f1_ f2_ f3_; subst f4_; subst f5_))
      obtain ⟨Ao87, co87, eo87⟩ := Kd.R_slice HO639.out
      (first | subst eo87 | (injection eo87 with f1_ f2_ f3_; have f4_ := f1_.symm; have f5_ := f3_.symm; clear f1_ f2_ f3_; subst f4_; subst f5_))
      obtain ⟨Ao88, co88, eo88⟩ := Kd.R_slice HO642.out
      (first | subst eo88 | (injection eo88 with f1_ f2_ f3_; have f4_ := f1_.symm; have f5_ := f3_.symm; clear f1_ f2_ f3_; subst f4_; subst f5_))
      obtain ⟨Ao89, co89, eo89⟩ := Kd.R_slice HO645.out
      (first | subst eo89 | (injection eo89 with f1_ f2_ f3_; have f4_ := f1_.symm; have f5_ := f3_.symm; clear f1_ f2_ f3_; subst f4_; subst f5_))
      refine hK.out _ _ ⟨(blk_cell BK601.out 0).trans rfl, (blk_cell BK601.out 1).trans rfl, (blk_cell BK601.out 2).trans rfl, (blk_cell BK601.out 3).trans rfl, (blk_cell BK601.out 4).trans rfl, (blk_cell BK601.out 5).trans rfl, (blk_cell BK601.out 6).trans rfl, (blk_cell BK601.out 7).trans rfl, (blk_cell BK601.out 8).trans rfl, (blk_cell BK537.out 0).trans rfl, (blk_cell BK537.out 1).trans rfl, (blk_cell BK537.out 2).trans rfl, (blk_cell BK537.out 3).trans rfl, (blk_cell BK537.out 4).trans rfl, (blk_cell BK537.out 5).trans rfl, (blk_cell BK537.out 6).trans rfl, (blk_cell BK537.out 7).trans rfl, (blk_cell BK537.out 8).trans rfl⟩ (fun hHeld => ?_)
      clear hK K
      refine norm_ (a' := ?_) ?_ ?_
      rotate_left
      ·show Act.put _ (some 54) _ = _
       simp only [Act.put, List.setIfInBounds_toArray, List.set_cons_zero, List.set_cons_succ, i64_w, i32_w]
       rfl
      refine one_ (i := 3) (N := some 55) #[true, true, true, true, false] rfl rfl (by kernel_rfl) (by decide) (fun K hK => ?_)
      refine goes_ Try.func11 (by kernel_rfl) rfl #[.agg #[.slice Ao39 t582.length co39, .int .i64 t585, .int .i64 t586, .int .i64 t587, .slice Ao43 t588.length co43, .bool t591, .slice Ao44 t592.length co44, .slice Ao45 t595.length co45, .slice Ao46 t598.length co46], .agg #[.slice Ao85 t627.length co85, .int .i64 t630, .int .i64 t631, .int .i64 t632, .slice Ao86 t633.length co86, .bool t636, .slice Ao87 t637.length co87, .slice Ao88 t640.length co88, .slice Ao89 t643.length co89]] (by rfl) rfl rfl (by (try simp only [List.map_toArray, List.map_cons, List.map_nil]); first | done | rfl | (simp only [List.length_drop, List.length_take]; rfl)) ?_
      with_reducible refine (laws_eqBook.calls kj16 _ _ t582 t585 t586 t587 _ _ t588 t591 _ _ t592 _ _ t595 _ _ t598 _ _ t627 t630 t631 t632 _ _ t633 t636 _ _ t637 _ _ t640 _ _ t643 t646 _ ?side1 ?side2 ?side3 ?side4 ?side5 ?side6 ?side7 ?side8 ?side9 ?side10 ?side11 ?side12 ?side13 ?side14 ?side15 ?side16 ?side17 ?side18 ?side19 ?side20 A81.out).mono ?_
      (case side1 => exact cr HO_602000)
      (case side2 => exact (Kd.R_reads' HO_602000.out).2.1)
      (case side3 => exact cr HO_602004)
      (case side4 => exact (Kd.R_reads' HO_602004.out).2.1)
      (case side5 => exact cr HO_602006)
      (case side6 => exact (Kd.R_reads' HO_602006.out).2.1)
      (case side7 => exact cr HO_602007)
      (case side8 => exact (Kd.R_reads' HO_602007.out).2.1)
      (case side9 => exact cr HO_602008)
      (case side10 => exact (Kd.R_reads' HO_602008.out).2.1)
      (case side11 => exact cr HO629)
      (case side12 => exact (Kd.R_reads' HO629.out).2.1)
      (case side13 => exact cr HO635)
      (case side14 => exact (Kd.R_reads' HO635.out).2.1)
      (case side15 => exact cr HO639)
      (case side16 => exact (Kd.R_reads' HO639.out).2.1)
      (case side17 => exact cr HO642)
      (case side18 => exact (Kd.R_reads' HO642.out).2.1)
      (case side19 => exact cr HO645)
      (case side20 => exact (Kd.R_reads' HO645.out).2.1)
      rintro e w90 ⟨rfl, hb⟩
      refine ⟨_, rfl, ?_⟩
      replace HO_9 := kr HO_9 hb
      replace HO_582000 := kr HO_582000 hb
      replace HO_582004 := kr HO_582004 hb
      replace HO_582006 := kr HO_582006 hb
      replace HO_582007 := kr HO_582007 hb
      replace HO_582008 := kr HO_582008 hb
      replace HO_602000 := kr HO_602000 hb
      replace HO_602004 := kr HO_602004 hb
      replace HO_602006 := kr HO_602006 hb
      replace HO_602007 := kr HO_602007 hb
      replace HO_602008 := kr HO_602008 hb
      replace HO_626000 := kr HO_626000 hb
      replace HO_626004 := kr HO_626004 hb
      replace HO_626006 := kr HO_626006 hb
      replace HO_626007 := kr HO_626007 hb
      replace HO_626008 := kr HO_626008 hb
      replace HO629 := kr HO629 hb
      replace HO635 := kr HO635 hb
      replace HO639 := kr HO639 hb
      replace HO642 := kr HO642 hb
      replace HO645 := kr HO645 hb
      replace BK537 := kb BK537 hb
      replace BK581 := kb BK581 hb
      replace BK601 := kb BK601 hb
      replace BK625 := kb BK625 hb
      replace HB := hs_ HB hb
      (try clear hb hb2 hk hi)
      refine hK.out _ _ ⟨(blk_cell BK601.out 0).trans rfl, (blk_cell BK601.out 1).trans rfl, (blk_cell BK601.out 2).trans rfl, (blk_cell BK601.out 3).trans rfl, (blk_cell BK601.out 4).trans rfl, (blk_cell BK601.out 5).trans rfl, (blk_cell BK601.out 6).trans rfl, (blk_cell BK601.out 7).trans rfl, (blk_cell BK601.out 8).trans rfl, (blk_cell BK537.out 0).trans rfl, (blk_cell BK537.out 1).trans rfl, (blk_cell BK537.out 2).trans rfl, (blk_cell BK537.out 3).trans rfl, (blk_cell BK537.out 4).trans rfl, (blk_cell BK537.out 5).trans rfl, (blk_cell BK537.out 6).trans rfl, (blk_cell BK537.out 7).trans rfl, (blk_cell BK537.out 8).trans rfl⟩ (fun hHeld => ?_)
      clear hK K
      refine norm_ (a' := ?_) ?_ ?_
      rotate_left
      ·show Act.put _ (some 55) _ = _
       simp only [Act.put, List.setIfInBounds_toArray, List.set_cons_zero, List.set_cons_succ, i64_w, i32_w]
       rfl
      refine pure_ (i := 4) (N := some 56) (v := ?_) (a' := ?_) #[true, true, true, true, true] rfl rfl (by kernel_rfl) (fun _ _ _ h => h) (Or.inl ⟨by rfl, ?_⟩) ?_ ?_
      rotate_left
      ·intro w'
       go_simp
       with_reducible rfl
      rotate_left
      ·simp only [Act.put, List.setIfInBounds_toArray, List.set_cons_zero, List.set_cons_succ, i64_w, i32_w]
       rfl
      refine done_ (by kernel_rfl) ?_
      go_upto_if 56 with (fail)
      have H := HC82.out
      clear HC82
      by_cases c91 : t646 = true
      ·subst c91
       rw [if_pos rfl] at H
       replace H := Option.bind_eq_some_iff.mp H
       obtain ⟨t647, A920, H⟩ := H
       try dsimp only at H
       have A92 := Aside0.mk A920
       clear A920
       replace H := Option.bind_eq_some_iff.mp H
       obtain ⟨t650, A930, H⟩ := H
       try dsimp only at H
       have A93 := Aside0.mk A930
       clear A930
       have HC94 := Aside0.mk H
       clear H
       go_upto_if 61 with (first | ((with_reducible refine gate_callee (f := 9) rfl ?_); refine gl (some 59) Try.func9 #[.slice A1 l1.length c1] ?_; (with_reducible refine (laws_toIntS.calls kj16 _ _ l1 t647 _ ?side1 ?side2 A92.out).mono ?_); (case side1 => exact cc HR1 HB); (case side2 => exact HC1.out); rintro e w95 ⟨v648, rfl, ho0, hb⟩; refine ⟨_, rfl, ?_⟩; replace HO_582000 := kr HO_582000 hb; replace HO_582006 := kr HO_582006 hb; replace HO_602000 := kr HO_602000 hb; replace HO_602006 := kr HO_602006 hb; replace HO_626000 := kr HO_626000 hb; replace HO_626006 := kr HO_626006 hb; replace HO629 := kr HO629 hb; replace HO639 := kr HO639 hb; have HO649 := Aside0.mk (Kd.R_lower (Kd.R_new' (Kd.R_new' (Kd.R_new' (Kd.R_new' (Kd.R_new' (Kd.R_new' (Kd.R_new' (Kd.R_new' (Kd.R_new' (Kd.R_new' (Kd.R_new' (Kd.R_new' (Kd.R_new' ho0 (rt HO_9)) (rt HO_582004)) (rt HO_582007)) (rt HO_582008)) (rt HO_602004)) (rt HO_602007)) (rt HO_602008)) (rt HO_626004)) (rt HO_626007)) (rt HO_626008)) (rt HO635)) (rt HO642)) (rt HO645)) (below_size (bb HB))); replace HO_9 := ke HO_9 ho0 hb; replace HO_582004 := ke HO_582004 ho0 hb; replace HO_582007 := ke HO_582007 ho0 hb; replace HO_582008 := ke HO_582008 ho0 hb; replace HO_602004 := ke HO_602004 ho0 hb; replace HO_602007 := ke HO_602007 ho0 hb; replace HO_602008 := ke HO_602008 ho0 hb; replace HO_626004 := ke HO_626004 ho0 hb; replace HO_626007 := ke HO_626007 ho0 hb; replace HO_626008 := ke HO_626008 ho0 hb; replace HO635 := ke HO635 ho0 hb; replace HO642 := ke HO642 ho0 hb; replace HO645 := ke HO645 ho0 hb; replace BK537 := kb BK537 hb; replace BK581 := kb BK581 hb; replace BK601 := kb BK601 hb; replace BK625 := kb BK625 hb; replace HB := hs_ HB hb; (try clear hb hb2 hk hi ho0); obtain ⟨Ao96, co96, eo96⟩ := Kd.R_slice HO649.out; subst eo96) | ((with_reducible refine gate_callee (f := 12) rfl ?_); refine gl (some 60) Try.func12 #[.slice Ao49 t602.length co49, .slice Ao96 t647.length co96] ?_; (with_reducible refine (laws_eqIntS.calls kj16 _ _ t602 _ _ t647 t650 _ ?side1 ?side2 ?side3 ?side4 A93.out).mono ?_); (case side1 => exact cr HO_9); (case side2 => exact cl HO_9); (case side3 => exact cr HO649); (case side4 => exact cl HO649); rintro e w' ⟨rfl, ⟨nd, rfl⟩⟩; refine ⟨_, rfl, ?_⟩))
       (try simp only [Act.put, List.setIfInBounds_toArray, List.set_cons_zero, List.set_cons_succ])
       have H := HC94.out
       clear HC94
       by_cases c97 : t650 = true
       ·subst c97
        rw [if_pos rfl] at H
        replace H := Option.bind_eq_some_iff.mp H
        obtain ⟨⟨t651, t652, t653, t654, t655, t656⟩, A980, H⟩ := H
        try dsimp only at H
        have A98 := Aside0.mk A980
        clear A980
        replace H := Option.bind_eq_some_iff.mp H
        obtain ⟨⟨t657, t658⟩, A990, H⟩ := H
        try dsimp only at H
        have A99 := Aside0.mk A990
        clear A990
        have HC100 := Aside0.mk H
        clear H
        have hnb101 := NB601_537.out
        have hnc101 := NB537_601.out
        have hnb102 := NB601_581.out
        have hnc102 := NB581_601.out
        have hnb103 := NB601_625.out
        have hnc103 := NB625_601.out
        have ⟨hcz104_0, hcz104_1, hcz104_2, hcz104_3, hcz104_4, hcz104_5, hcz104_6, hcz104_7, hcz104_8, hfz104_0, hfz104_1, hfz104_2, hfz104_3, hfz104_4, hfz104_5, hfz104_6, hfz104_7, hfz104_8⟩ := rz9 BK601
        go_upto_region 20 with (first | ((with_reducible refine gate_callee (f := 13) rfl ?_); refine gl (some 64) Try.func13 #[.agg #[.slice Ao39 t582.length co39, .int .i64 t585, .int .i64 t586, .int .i64 t587, .slice Ao43 t588.length co43, .bool t591, .slice Ao44 t592.length co44, .slice Ao45 t595.length co45, .slice Ao46 t598.length co46], .int .i64 1] ?_; (with_reducible refine (laws_markBook.calls kj16 (fun k_ => some k_ = (.slice Ao39 t582.length co39 : Value).ownBlock) (.slice Ao39 t582.length co39) t582 t585 t586 t587 (fun k_ => some k_ = (.slice Ao43 t588.length co43 : Value).ownBlock) (.slice Ao43 t588.length co43) t588 t591 (fun k_ => some k_ = (.slice Ao44 t592.length co44 : Value).ownBlock) (.slice Ao44 t592.length co44) t592 (fun k_ => some k_ = (.slice Ao45 t595.length co45 : Value).ownBlock) (.slice Ao45 t595.length co45) t595 (fun k_ => some k_ = (.slice Ao46 t598.length co46 : Value).ownBlock) (.slice Ao46 t598.length co46) t598 1 t651 t652 t653 t654 t655 t656 w _ ?side1 ?side2 ?side3 ?side4 ?side5 ?side6 ?side7 ?side8 ?side9 ?side10 ?side11 ?side12 A98.out).mono ?_); (case side1 => exact bb HB); (case side2 => exact Kd.R_tight rfl HO_602000.out); (case side3 => exact Kd.R_tight rfl HO_602004.out); (case side4 => exact fun k_ e_ => (HO_602004.out.1 k_ e_.symm).1.1.1.1.2.2.2.2.1); (case side5 => exact fun k_ e_ => (HO_602004.out.1 k_ e_.symm).1.1.1.1.2.2.2.2.2.1); (case side6 => exact Kd.R_tight rfl HO_602006.out); (case side7 => exact Kd.R_tight rfl HO_602007.out); (case side8 => exact fun k_ e_ => (HO_602007.out.1 k_ e_.symm).1.1.1.1.2.2.2.2.1); (case side9 => exact fun k_ e_ => (HO_602007.out.1 k_ e_.symm).1.1.1.1.2.2.2.2.2.1); (case side10 => exact Kd.R_tight rfl HO_602008.out); (case side11 => exact fun k_ e_ => (HO_602008.out.1 k_ e_.symm).1.1.1.1.2.2.2.2.1); (case side12 => exact fun k_ e_ => (HO_602008.out.1 k_ e_.symm).1.1.1.1.2.2.2.2.2.1); rintro e w105 ⟨rfl, hy0, hy1, hy2, hy3, hy4, hb, hkp⟩; refine ⟨_, rfl, ?_⟩; replace HO_9 := km hkp (ra (ra HO_9.out HO_602000) HO_602006) (fun k_ hk_ => oe hk_.1.2 (oe hk_.1.1.1.1.1.1.2.2.2.1 (oe hk_.2 (oe hk_.1.1.1.1.1.1.2.2.2.2.1 hk_.1.1.1.1.1.1.2.2.2.2.2.1)))) (fun k_ hk_ => ai hk_.1.1.1.1.1.1.1 (ai hk_.1.1.1.1.1.1.2.1 (ai hk_.1.1.1.1.1.1.2.2.1 (ai hk_.1.1.1.1.1.1.2.2.2.1 (ai hk_.1.1.1.1.1.1.2.2.2.2.1 (ai hk_.1.1.1.1.1.1.2.2.2.2.2.1 (ai hk_.1.1.1.1.1.1.2.2.2.2.2.2.1 (ai hk_.1.1.1.1.1.1.2.2.2.2.2.2.2.1 (ai hk_.1.1.1.1.1.1.2.2.2.2.2.2.2.2 (ai hk_.1.1.1.1.1.2 (ai hk_.1.1.1.1.2 (ai hk_.1.1.1.2 hk_.1.1.2)))))))))))); replace HO_582000 := km hkp (ra (ra (ra (ra HO_582000.out HO_602004) HO_602006) HO_602007) HO_602008) (fun k_ hk_ => oe hk_.1.1.1.1.1.1 (oe hk_.1.1.1.2 (oe hk_.1.1.2 (oe hk_.1.2 hk_.2)))) (fun k_ hk_ => ai hk_.1.1.1.1.1.1 (ai hk_.1.1.1.1.1.2 hk_.1.1.1.1.2)); replace HO_582004 := km hkp (ra (ra HO_582004.out HO_602000) HO_602006) (fun k_ hk_ => oe hk_.1.2 (oe hk_.1.1.1.1.1.1.2.2.2.1 (oe hk_.2 (oe hk_.1.1.1.1.1.1.2.2.2.2.1 hk_.1.1.1.1.1.1.2.2.2.2.2.1)))) (fun k_ hk_ => ai hk_.1.1.1.1.1.1.1 (ai hk_.1.1.1.1.1.1.2.1 (ai hk_.1.1.1.1.1.1.2.2.1 (ai hk_.1.1.1.1.1.1.2.2.2.1 (ai hk_.1.1.1.1.1.1.2.2.2.2.1 (ai hk_.1.1.1.1.1.1.2.2.2.2.2.1 (ai hk_.1.1.1.1.1.1.2.2.2.2.2.2.1 (ai hk_.1.1.1.1.1.1.2.2.2.2.2.2.2.1 (ai hk_.1.1.1.1.1.1.2.2.2.2.2.2.2.2 (ai hk_.1.1.1.1.1.2 (ai hk_.1.1.1.1.2 (ai hk_.1.1.1.2 hk_.1.1.2)))))))))))); replace HO_582006 := km hkp (ra (ra (ra (ra HO_582006.out HO_602000) HO_602004) HO_602007) HO_602008) (fun k_ hk_ => oe hk_.1.1.1.2 (oe hk_.1.1.2 (oe hk_.1.1.1.1.1.1 (oe hk_.1.2 hk_.2)))) (fun k_ hk_ => ai hk_.1.1.1.1.1.1 (ai hk_.1.1.1.1.1.2 hk_.1.1.1.1.2)); replace HO_582007 := km hkp (ra (ra HO_582007.out HO_602000) HO_602006) (fun k_ hk_ => oe hk_.1.2 (oe hk_.1.1.1.1.1.1.2.2.2.1 (oe hk_.2 (oe hk_.1.1.1.1.1.1.2.2.2.2.1 hk_.1.1.1.1.1.1.2.2.2.2.2.1)))) (fun k_ hk_ => ai hk_.1.1.1.1.1.1.1 (ai hk_.1.1.1.1.1.1.2.1 (ai hk_.1.1.1.1.1.1.2.2.1 (ai hk_.1.1.1.1.1.1.2.2.2.1 (ai hk_.1.1.1.1.1.1.2.2.2.2.1 (ai hk_.1.1.1.1.1.1.2.2.2.2.2.1 (ai hk_.1.1.1.1.1.1.2.2.2.2.2.2.1 (ai hk_.1.1.1.1.1.1.2.2.2.2.2.2.2.1 (ai hk_.1.1.1.1.1.1.2.2.2.2.2.2.2.2 (ai hk_.1.1.1.1.1.2 (ai hk_.1.1.1.1.2 (ai hk_.1.1.1.2 hk_.1.1.2)))))))))))); replace HO_582008 := km hkp (ra (ra HO_582008.out HO_602000) HO_602006) (fun k_ hk_ => oe hk_.1.2 (oe hk_.1.1.1.1.1.1.2.2.2.1 (oe hk_.2 (oe hk_.1.1.1.1.1.1.2.2.2.2.1 hk_.1.1.1.1.1.1.2.2.2.2.2.1)))) (fun k_ hk_ => ai hk_.1.1.1.1.1.1.1 (ai hk_.1.1.1.1.1.1.2.1 (ai hk_.1.1.1.1.1.1.2.2.1 (ai hk_.1.1.1.1.1.1.2.2.2.1 (ai hk_.1.1.1.1.1.1.2.2.2.2.1 (ai hk_.1.1.1.1.1.1.2.2.2.2.2.1 (ai hk_.1.1.1.1.1.1.2.2.2.2.2.2.1 (ai hk_.1.1.1.1.1.1.2.2.2.2.2.2.2.1 (ai hk_.1.1.1.1.1.1.2.2.2.2.2.2.2.2 (ai hk_.1.1.1.1.1.2 (ai hk_.1.1.1.1.2 (ai hk_.1.1.1.2 hk_.1.1.2)))))))))))); replace HO_626000 := km hkp (ra (ra (ra (ra HO_626000.out HO_602004) HO_602006) HO_602007) HO_602008) (fun k_ hk_ => oe hk_.1.1.1.1.1.2 (oe hk_.1.1.1.2 (oe hk_.1.1.2 (oe hk_.1.2 hk_.2)))) (fun k_ hk_ => ai hk_.1.1.1.1.1.1 (ai hk_.1.1.1.1.1.2 hk_.1.1.1.1.2)); replace HO_626004 := km hkp (ra (ra HO_626004.out HO_602000) HO_602006) (fun k_ hk_ => oe hk_.1.2 (oe hk_.1.1.1.1.1.1.2.2.2.2.1 (oe hk_.2 (oe hk_.1.1.1.1.1.1.2.2.2.2.2.1 hk_.1.1.1.1.1.1.2.2.2.2.2.2.1)))) (fun k_ hk_ => ai hk_.1.1.1.1.1.1.1 (ai hk_.1.1.1.1.1.1.2.1 (ai hk_.1.1.1.1.1.1.2.2.1 (ai hk_.1.1.1.1.1.1.2.2.2.1 (ai hk_.1.1.1.1.1.1.2.2.2.2.1 (ai hk_.1.1.1.1.1.1.2.2.2.2.2.1 (ai hk_.1.1.1.1.1.1.2.2.2.2.2.2.1 (ai hk_.1.1.1.1.1.1.2.2.2.2.2.2.2.1 (ai hk_.1.1.1.1.1.1.2.2.2.2.2.2.2.2 (ai hk_.1.1.1.1.1.2 (ai hk_.1.1.1.1.2 (ai hk_.1.1.1.2 hk_.1.1.2)))))))))))); replace HO_626006 := km hkp (ra (ra (ra (ra HO_626006.out HO_602000) HO_602004) HO_602007) HO_602008) (fun k_ hk_ => oe hk_.1.1.1.2 (oe hk_.1.1.2 (oe hk_.1.1.1.1.1.2 (oe hk_.1.2 hk_.2)))) (fun k_ hk_ => ai hk_.1.1.1.1.1.1 (ai hk_.1.1.1.1.1.2 hk_.1.1.1.1.2)); replace HO_626007 := km hkp (ra (ra HO_626007.out HO_602000) HO_602006) (fun k_ hk_ => oe hk_.1.2 (oe hk_.1.1.1.1.1.1.2.2.2.2.1 (oe hk_.2 (oe hk_.1.1.1.1.1.1.2.2.2.2.2.1 hk_.1.1.1.1.1.1.2.2.2.2.2.2.1)))) (fun k_ hk_ => ai hk_.1.1.1.1.1.1.1 (ai hk_.1.1.1.1.1.1.2.1 (ai hk_.1.1.1.1.1.1.2.2.1 (ai hk_.1.1.1.1.1.1.2.2.2.1 (ai hk_.1.1.1.1.1.1.2.2.2.2.1 (ai hk_.1.1.1.1.1.1.2.2.2.2.2.1 (ai hk_.1.1.1.1.1.1.2.2.2.2.2.2.1 (ai hk_.1.1.1.1.1.1.2.2.2.2.2.2.2.1 (ai hk_.1.1.1.1.1.1.2.2.2.2.2.2.2.2 (ai hk_.1.1.1.1.1.2 (ai hk_.1.1.1.1.2 (ai hk_.1.1.1.2 hk_.1.1.2)))))))))))); replace HO_626008 := km hkp (ra (ra HO_626008.out HO_602000) HO_602006) (fun k_ hk_ => oe hk_.1.2 (oe hk_.1.1.1.1.1.1.2.2.2.2.1 (oe hk_.2 (oe hk_.1.1.1.1.1.1.2.2.2.2.2.1 hk_.1.1.1.1.1.1.2.2.2.2.2.2.1)))) (fun k_ hk_ => ai hk_.1.1.1.1.1.1.1 (ai hk_.1.1.1.1.1.1.2.1 (ai hk_.1.1.1.1.1.1.2.2.1 (ai hk_.1.1.1.1.1.1.2.2.2.1 (ai hk_.1.1.1.1.1.1.2.2.2.2.1 (ai hk_.1.1.1.1.1.1.2.2.2.2.2.1 (ai hk_.1.1.1.1.1.1.2.2.2.2.2.2.1 (ai hk_.1.1.1.1.1.1.2.2.2.2.2.2.2.1 (ai hk_.1.1.1.1.1.1.2.2.2.2.2.2.2.2 (ai hk_.1.1.1.1.1.2 (ai hk_.1.1.1.1.2 (ai hk_.1.1.1.2 hk_.1.1.2)))))))))))); replace BK537 := Aside0.mk (blk_kept (bk BK537) hkp (fun hs_ => Or.elim hs_ (fun e_ => (fun e_ => (Kd.R_ne HO_602000.out BK537.out (by decide)) e_) e_) (fun e_ => Or.elim e_ (fun e_ => (fun e_ => (Kd.R_ne HO_602004.out BK537.out (by decide)) e_) e_) (fun e_ => Or.elim e_ (fun e_ => (fun e_ => (Kd.R_ne HO_602006.out BK537.out (by decide)) e_) e_) (fun e_ => Or.elim e_ (fun e_ => (fun e_ => (Kd.R_ne HO_602007.out BK537.out (by decide)) e_) e_) (fun e_ => (fun e_ => (Kd.R_ne HO_602008.out BK537.out (by decide)) e_) e_)))))); replace BK581 := Aside0.mk (blk_kept (bk BK581) hkp (fun hs_ => Or.elim hs_ (fun e_ => (fun e_ => (Kd.R_ne HO_602000.out BK581.out (by decide)) e_) e_) (fun e_ => Or.elim e_ (fun e_ => (fun e_ => (Kd.R_ne HO_602004.out BK581.out (by decide)) e_) e_) (fun e_ => Or.elim e_ (fun e_ => (fun e_ => (Kd.R_ne HO_602006.out BK581.out (by decide)) e_) e_) (fun e_ => Or.elim e_ (fun e_ => (fun e_ => (Kd.R_ne HO_602007.out BK581.out (by decide)) e_) e_) (fun e_ => (fun e_ => (Kd.R_ne HO_602008.out BK581.out (by decide)) e_) e_)))))); replace BK601 := Aside0.mk (blk_kept (bk BK601) hkp (fun hs_ => Or.elim hs_ (fun e_ => (fun e_ => (Kd.R_ne HO_602000.out BK601.out (by decide)) e_) e_) (fun e_ => Or.elim e_ (fun e_ => (fun e_ => (Kd.R_ne HO_602004.out BK601.out (by decide)) e_) e_) (fun e_ => Or.elim e_ (fun e_ => (fun e_ => (Kd.R_ne HO_602006.out BK601.out (by decide)) e_) e_) (fun e_ => Or.elim e_ (fun e_ => (fun e_ => (Kd.R_ne HO_602007.out BK601.out (by decide)) e_) e_) (fun e_ => (fun e_ => (Kd.R_ne HO_602008.out BK601.out (by decide)) e_) e_)))))); replace BK625 := Aside0.mk (blk_kept (bk BK625) hkp (fun hs_ => Or.elim hs_ (fun e_ => (fun e_ => (Kd.R_ne HO_602000.out BK625.out (by decide)) e_) e_) (fun e_ => Or.elim e_ (fun e_ => (fun e_ => (Kd.R_ne HO_602004.out BK625.out (by decide)) e_) e_) (fun e_ => Or.elim e_ (fun e_ => (fun e_ => (Kd.R_ne HO_602006.out BK625.out (by decide)) e_) e_) (fun e_ => Or.elim e_ (fun e_ => (fun e_ => (Kd.R_ne HO_602007.out BK625.out (by decide)) e_) e_) (fun e_ => (fun e_ => (Kd.R_ne HO_602008.out BK625.out (by decide)) e_) e_)))))); replace HO629 := km hkp (ra (ra (ra (ra HO629.out HO_602004) HO_602006) HO_602007) HO_602008) (fun k_ hk_ => oe hk_.1.1.1.1.1.2 (oe hk_.1.1.1.2 (oe hk_.1.1.2 (oe hk_.1.2 hk_.2)))) (fun k_ hk_ => ai hk_.1.1.1.1.1.1.2 (ai hk_.1.1.1.1.1.2 hk_.1.1.1.1.2)); replace HO635 := km hkp (ra (ra HO635.out HO_602000) HO_602006) (fun k_ hk_ => oe hk_.1.2 (oe hk_.1.1.1.1.1.1.1.1.2 (oe hk_.2 (oe hk_.1.1.1.1.1.1.1.2 hk_.1.1.1.1.1.1.2)))) (fun k_ hk_ => ai hk_.1.1.1.1.1.1.1.1.1.1.1.1.2 (ai hk_.1.1.1.1.1.1.1.1.1.1.1.2 (ai hk_.1.1.1.1.1.1.1.1.1.1.2 (ai hk_.1.1.1.1.1.1.1.1.1.2 (ai hk_.1.1.1.1.1.1.1.1.2 (ai hk_.1.1.1.1.1.1.1.2 (ai hk_.1.1.1.1.1.1.2 (ai hk_.1.1.1.1.1.2 (ai hk_.1.1.1.1.2 (ai hk_.1.1.1.2 (ai hk_.1.1.1.1.1.1.1.1.1.1.1.1.1.1 (ai hk_.1.1.1.1.1.1.1.1.1.1.1.1.1.2 hk_.1.1.2)))))))))))); replace HO639 := km hkp (ra (ra (ra (ra HO639.out HO_602000) HO_602004) HO_602007) HO_602008) (fun k_ hk_ => oe hk_.1.1.1.2 (oe hk_.1.1.2 (oe hk_.1.1.1.1.1.2 (oe hk_.1.2 hk_.2)))) (fun k_ hk_ => ai hk_.1.1.1.1.1.1.2 (ai hk_.1.1.1.1.1.2 hk_.1.1.1.1.2)); replace HO_602004 := Aside0.mk (Kd.R_reok rfl hy1 (fun k_ e_ => HO_602004.out.1 k_ e_)); replace HO_602007 := Aside0.mk (Kd.R_reok rfl hy3 (fun k_ e_ => HO_602007.out.1 k_ e_)); replace HO_602008 := Aside0.mk (Kd.R_reok rfl hy4 (fun k_ e_ => HO_602008.out.1 k_ e_)); replace HO642 := km hkp (ra (ra HO642.out HO_602000) HO_602006) (fun k_ hk_ => oe hk_.1.2 (oe hk_.1.1.1.1.1.1.1.1.2 (oe hk_.2 (oe hk_.1.1.1.1.1.1.1.2 hk_.1.1.1.1.1.1.2)))) (fun k_ hk_ => ai hk_.1.1.1.1.1.1.1.1.1.1.1.1.2 (ai hk_.1.1.1.1.1.1.1.1.1.1.1.2 (ai hk_.1.1.1.1.1.1.1.1.1.1.2 (ai hk_.1.1.1.1.1.1.1.1.1.2 (ai hk_.1.1.1.1.1.1.1.1.2 (ai hk_.1.1.1.1.1.1.1.2 (ai hk_.1.1.1.1.1.1.2 (ai hk_.1.1.1.1.1.2 (ai hk_.1.1.1.1.2 (ai hk_.1.1.1.2 (ai hk_.1.1.1.1.1.1.1.1.1.1.1.1.1.1 (ai hk_.1.1.1.1.1.1.1.1.1.1.1.1.1.2 hk_.1.1.2)))))))))))); replace HO645 := km hkp (ra (ra HO645.out HO_602000) HO_602006) (fun k_ hk_ => oe hk_.1.2 (oe hk_.1.1.1.1.1.1.1.1.2 (oe hk_.2 (oe hk_.1.1.1.1.1.1.1.2 hk_.1.1.1.1.1.1.2)))) (fun k_ hk_ => ai hk_.1.1.1.1.1.1.1.1.1.1.1.1.2 (ai hk_.1.1.1.1.1.1.1.1.1.1.1.2 (ai hk_.1.1.1.1.1.1.1.1.1.1.2 (ai hk_.1.1.1.1.1.1.1.1.1.2 (ai hk_.1.1.1.1.1.1.1.1.2 (ai hk_.1.1.1.1.1.1.1.2 (ai hk_.1.1.1.1.1.1.2 (ai hk_.1.1.1.1.1.2 (ai hk_.1.1.1.1.2 (ai hk_.1.1.1.2 (ai hk_.1.1.1.1.1.1.1.1.1.1.1.1.1.1 (ai hk_.1.1.1.1.1.1.1.1.1.1.1.1.1.2 hk_.1.1.2)))))))))))); replace HO649 := km hkp (ra (ra HO649.out HO_602000) HO_602006) (fun k_ hk_ => oe hk_.1.2 (oe hk_.1.1.1.1.1.1.1.1.1.1.2 (oe hk_.2 (oe hk_.1.1.1.1.1.1.1.1.1.2 hk_.1.1.1.1.1.1.1.1.2)))) (fun k_ hk_ => ai hk_.1.1.1.1.1.1.1.1.1.1.1.1.1.1.2 (ai hk_.1.1.1.1.1.1.1.1.1.1.1.1.1.2 (ai hk_.1.1.1.1.1.1.1.1.1.1.1.1.2 (ai hk_.1.1.1.1.1.1.1.1.1.1.1.2 (ai hk_.1.1.1.1.1.1.1.1.1.1.2 (ai hk_.1.1.1.1.1.1.1.1.1.2 (ai hk_.1.1.1.1.1.1.1.1.2 (ai hk_.1.1.1.1.1.1.1.2 (ai hk_.1.1.1.1.1.1.2 (ai hk_.1.1.1.1.1.2 (ai hk_.1.1.1.1.2 (ai hk_.1.1.1.2 hk_.1.1.2)))))))))))); replace HO_602000 := Aside0.mk (Kd.R_reok rfl hy0 (fun k_ e_ => HO_602000.out.1 k_ e_)); replace HO_602006 := Aside0.mk (Kd.R_reok rfl hy2 (fun k_ e_ => HO_602006.out.1 k_ e_)); replace HB := Aside0.mk (hb); (try clear hb hkp hy0 hy1 hy2 hy3 hy4)) | ((with_reducible refine gate_callee (f := 14) rfl ?_); refine gl (some 67) Try.func14 #[.slice Ao49 t602.length co49, .int .i64 t651] ?_; (with_reducible refine (laws_markIntS.calls kj16 (fun k_ => some k_ = (.slice Ao49 t602.length co49 : Value).ownBlock) (.slice Ao49 t602.length co49) t602 t651 t657 t658 w _ ?side1 ?side2 A99.out).mono ?_); (case side1 => exact bb HB); (case side2 => exact Kd.R_tight rfl HO_9.out); rintro e w106 ⟨rfl, hy0, hb, hkp⟩; refine ⟨_, rfl, ?_⟩; replace HO_582000 := km hkp (ra HO_582000.out HO_9) (fun k_ hk_ => hk_.2) (fun k_ hk_ => ai hk_.1.1 (ai hk_.1.2.1 hk_.1.2.2)); replace HO_582004 := km hkp HO_582004.out (fun k_ hk_ => hk_.1) (fun k_ hk_ => ai hk_.1 (ai hk_.2.1 (ai hk_.2.2.1 (ai hk_.2.2.2.1 (ai hk_.2.2.2.2.1 (ai hk_.2.2.2.2.2.1 (ai hk_.2.2.2.2.2.2.1 (ai hk_.2.2.2.2.2.2.2.1 (ai hk_.2.2.2.2.2.2.2.2.1 (ai hk_.2.2.2.2.2.2.2.2.2.1 (ai hk_.2.2.2.2.2.2.2.2.2.2.1 (ai hk_.2.2.2.2.2.2.2.2.2.2.2.1 hk_.2.2.2.2.2.2.2.2.2.2.2.2)))))))))))); replace HO_582006 := km hkp (ra HO_582006.out HO_9) (fun k_ hk_ => hk_.2) (fun k_ hk_ => ai hk_.1.1 (ai hk_.1.2.1 hk_.1.2.2)); replace HO_582007 := km hkp HO_582007.out (fun k_ hk_ => hk_.1) (fun k_ hk_ => ai hk_.1 (ai hk_.2.1 (ai hk_.2.2.1 (ai hk_.2.2.2.1 (ai hk_.2.2.2.2.1 (ai hk_.2.2.2.2.2.1 (ai hk_.2.2.2.2.2.2.1 (ai hk_.2.2.2.2.2.2.2.1 (ai hk_.2.2.2.2.2.2.2.2.1 (ai hk_.2.2.2.2.2.2.2.2.2.1 (ai hk_.2.2.2.2.2.2.2.2.2.2.1 (ai hk_.2.2.2.2.2.2.2.2.2.2.2.1 hk_.2.2.2.2.2.2.2.2.2.2.2.2)))))))))))); replace HO_582008 := km hkp HO_582008.out (fun k_ hk_ => hk_.1) (fun k_ hk_ => ai hk_.1 (ai hk_.2.1 (ai hk_.2.2.1 (ai hk_.2.2.2.1 (ai hk_.2.2.2.2.1 (ai hk_.2.2.2.2.2.1 (ai hk_.2.2.2.2.2.2.1 (ai hk_.2.2.2.2.2.2.2.1 (ai hk_.2.2.2.2.2.2.2.2.1 (ai hk_.2.2.2.2.2.2.2.2.2.1 (ai hk_.2.2.2.2.2.2.2.2.2.2.1 (ai hk_.2.2.2.2.2.2.2.2.2.2.2.1 hk_.2.2.2.2.2.2.2.2.2.2.2.2)))))))))))); replace HO_602000 := km hkp (ra HO_602000.out HO_9) (fun k_ hk_ => hk_.2) (fun k_ hk_ => ai hk_.1.1.1 (ai hk_.1.1.2 hk_.1.2)); replace HO_602004 := km hkp HO_602004.out (fun k_ hk_ => hk_.1.1.1.1.1) (fun k_ hk_ => ai hk_.1.1.1.1.1 (ai hk_.1.1.1.1.2.1 (ai hk_.1.1.1.1.2.2.1 (ai hk_.1.1.1.1.2.2.2.1 (ai hk_.1.1.1.1.2.2.2.2.1 (ai hk_.1.1.1.1.2.2.2.2.2.1 (ai hk_.1.1.1.1.2.2.2.2.2.2.1 (ai hk_.1.1.1.1.2.2.2.2.2.2.2.1 (ai hk_.1.1.1.1.2.2.2.2.2.2.2.2 (ai hk_.1.1.1.2 (ai hk_.1.1.2 (ai hk_.1.2 hk_.2)))))))))))); replace HO_602006 := km hkp (ra HO_602006.out HO_9) (fun k_ hk_ => hk_.2) (fun k_ hk_ => ai hk_.1.1.1 (ai hk_.1.1.2 hk_.1.2)); replace HO_602007 := km hkp HO_602007.out (fun k_ hk_ => hk_.1.1.1.1.1) (fun k_ hk_ => ai hk_.1.1.1.1.1 (ai hk_.1.1.1.1.2.1 (ai hk_.1.1.1.1.2.2.1 (ai hk_.1.1.1.1.2.2.2.1 (ai hk_.1.1.1.1.2.2.2.2.1 (ai hk_.1.1.1.1.2.2.2.2.2.1 (ai hk_.1.1.1.1.2.2.2.2.2.2.1 (ai hk_.1.1.1.1.2.2.2.2.2.2.2.1 (ai hk_.1.1.1.1.2.2.2.2.2.2.2.2 (ai hk_.1.1.1.2 (ai hk_.1.1.2 (ai hk_.1.2 hk_.2)))))))))))); replace HO_602008 := km hkp HO_602008.out (fun k_ hk_ => hk_.1.1.1.1.1) (fun k_ hk_ => ai hk_.1.1.1.1.1 (ai hk_.1.1.1.1.2.1 (ai hk_.1.1.1.1.2.2.1 (ai hk_.1.1.1.1.2.2.2.1 (ai hk_.1.1.1.1.2.2.2.2.1 (ai hk_.1.1.1.1.2.2.2.2.2.1 (ai hk_.1.1.1.1.2.2.2.2.2.2.1 (ai hk_.1.1.1.1.2.2.2.2.2.2.2.1 (ai hk_.1.1.1.1.2.2.2.2.2.2.2.2 (ai hk_.1.1.1.2 (ai hk_.1.1.2 (ai hk_.1.2 hk_.2)))))))))))); replace HO_626000 := km hkp (ra HO_626000.out HO_9) (fun k_ hk_ => hk_.2) (fun k_ hk_ => ai hk_.1.1 (ai hk_.1.2.1 hk_.1.2.2)); replace HO_626004 := km hkp HO_626004.out (fun k_ hk_ => hk_.1) (fun k_ hk_ => ai hk_.1 (ai hk_.2.1 (ai hk_.2.2.1 (ai hk_.2.2.2.1 (ai hk_.2.2.2.2.1 (ai hk_.2.2.2.2.2.1 (ai hk_.2.2.2.2.2.2.1 (ai hk_.2.2.2.2.2.2.2.1 (ai hk_.2.2.2.2.2.2.2.2.1 (ai hk_.2.2.2.2.2.2.2.2.2.1 (ai hk_.2.2.2.2.2.2.2.2.2.2.1 (ai hk_.2.2.2.2.2.2.2.2.2.2.2.1 hk_.2.2.2.2.2.2.2.2.2.2.2.2)))))))))))); replace HO_626006 := km hkp (ra HO_626006.out HO_9) (fun k_ hk_ => hk_.2) (fun k_ hk_ => ai hk_.1.1 (ai hk_.1.2.1 hk_.1.2.2)); replace HO_626007 := km hkp HO_626007.out (fun k_ hk_ => hk_.1) (fun k_ hk_ => ai hk_.1 (ai hk_.2.1 (ai hk_.2.2.1 (ai hk_.2.2.2.1 (ai hk_.2.2.2.2.1 (ai hk_.2.2.2.2.2.1 (ai hk_.2.2.2.2.2.2.1 (ai hk_.2.2.2.2.2.2.2.1 (ai hk_.2.2.2.2.2.2.2.2.1 (ai hk_.2.2.2.2.2.2.2.2.2.1 (ai hk_.2.2.2.2.2.2.2.2.2.2.1 (ai hk_.2.2.2.2.2.2.2.2.2.2.2.1 hk_.2.2.2.2.2.2.2.2.2.2.2.2)))))))))))); replace HO_626008 := km hkp HO_626008.out (fun k_ hk_ => hk_.1) (fun k_ hk_ => ai hk_.1 (ai hk_.2.1 (ai hk_.2.2.1 (ai hk_.2.2.2.1 (ai hk_.2.2.2.2.1 (ai hk_.2.2.2.2.2.1 (ai hk_.2.2.2.2.2.2.1 (ai hk_.2.2.2.2.2.2.2.1 (ai hk_.2.2.2.2.2.2.2.2.1 (ai hk_.2.2.2.2.2.2.2.2.2.1 (ai hk_.2.2.2.2.2.2.2.2.2.2.1 (ai hk_.2.2.2.2.2.2.2.2.2.2.2.1 hk_.2.2.2.2.2.2.2.2.2.2.2.2)))))))))))); replace BK537 := Aside0.mk (blk_kept (bk BK537) hkp (fun hs_ => (fun e_ => (Kd.R_ne HO_9.out BK537.out (by decide)) e_) hs_)); replace BK581 := Aside0.mk (blk_kept (bk BK581) hkp (fun hs_ => (fun e_ => (Kd.R_ne HO_9.out BK581.out (by decide)) e_) hs_)); replace BK601 := Aside0.mk (blk_kept (bk BK601) hkp (fun hs_ => (fun e_ => (Kd.R_ne HO_9.out BK601.out (by decide)) e_) hs_)); replace BK625 := Aside0.mk (blk_kept (bk BK625) hkp (fun hs_ => (fun e_ => (Kd.R_ne HO_9.out BK625.out (by decide)) e_) hs_)); replace HO629 := km hkp (ra HO629.out HO_9) (fun k_ hk_ => hk_.2) (fun k_ hk_ => ai hk_.1.1 (ai hk_.1.2.1 hk_.1.2.2)); replace HO635 := km hkp HO635.out (fun k_ hk_ => hk_.1) (fun k_ hk_ => ai hk_.1 (ai hk_.2.1 (ai hk_.2.2.1 (ai hk_.2.2.2.1 (ai hk_.2.2.2.2.1 (ai hk_.2.2.2.2.2.1 (ai hk_.2.2.2.2.2.2.1 (ai hk_.2.2.2.2.2.2.2.1 (ai hk_.2.2.2.2.2.2.2.2.1 (ai hk_.2.2.2.2.2.2.2.2.2.1 (ai hk_.2.2.2.2.2.2.2.2.2.2.1 (ai hk_.2.2.2.2.2.2.2.2.2.2.2.1 hk_.2.2.2.2.2.2.2.2.2.2.2.2)))))))))))); replace HO639 := km hkp (ra HO639.out HO_9) (fun k_ hk_ => hk_.2) (fun k_ hk_ => ai hk_.1.1 (ai hk_.1.2.1 hk_.1.2.2)); replace HO_9 := Aside0.mk (Kd.R_reok rfl hy0 (fun k_ e_ => HO_9.out.1 k_ e_)); replace HO642 := km hkp HO642.out (fun k_ hk_ => hk_.1) (fun k_ hk_ => ai hk_.1 (ai hk_.2.1 (ai hk_.2.2.1 (ai hk_.2.2.2.1 (ai hk_.2.2.2.2.1 (ai hk_.2.2.2.2.2.1 (ai hk_.2.2.2.2.2.2.1 (ai hk_.2.2.2.2.2.2.2.1 (ai hk_.2.2.2.2.2.2.2.2.1 (ai hk_.2.2.2.2.2.2.2.2.2.1 (ai hk_.2.2.2.2.2.2.2.2.2.2.1 (ai hk_.2.2.2.2.2.2.2.2.2.2.2.1 hk_.2.2.2.2.2.2.2.2.2.2.2.2)))))))))))); replace HO645 := km hkp HO645.out (fun k_ hk_ => hk_.1) (fun k_ hk_ => ai hk_.1 (ai hk_.2.1 (ai hk_.2.2.1 (ai hk_.2.2.2.1 (ai hk_.2.2.2.2.1 (ai hk_.2.2.2.2.2.1 (ai hk_.2.2.2.2.2.2.1 (ai hk_.2.2.2.2.2.2.2.1 (ai hk_.2.2.2.2.2.2.2.2.1 (ai hk_.2.2.2.2.2.2.2.2.2.1 (ai hk_.2.2.2.2.2.2.2.2.2.2.1 (ai hk_.2.2.2.2.2.2.2.2.2.2.2.1 hk_.2.2.2.2.2.2.2.2.2.2.2.2)))))))))))); replace HO649 := km hkp HO649.out (fun k_ hk_ => hk_.1) (fun k_ hk_ => ai hk_.1 (ai hk_.2.1 (ai hk_.2.2.1 (ai hk_.2.2.2.1 (ai hk_.2.2.2.2.1 (ai hk_.2.2.2.2.2.1 (ai hk_.2.2.2.2.2.2.1 (ai hk_.2.2.2.2.2.2.2.1 (ai hk_.2.2.2.2.2.2.2.2.1 (ai hk_.2.2.2.2.2.2.2.2.2.1 (ai hk_.2.2.2.2.2.2.2.2.2.2.1 (ai hk_.2.2.2.2.2.2.2.2.2.2.2.1 hk_.2.2.2.2.2.2.2.2.2.2.2.2)))))))))))); replace HB := Aside0.mk (hb); (try clear hb hkp hy0)))
        (try simp only [Act.put, List.setIfInBounds_toArray, List.set_cons_zero, List.set_cons_succ])
        go_cut [80] (fun v80 wc => ∃ (kq : Nat) (x80_99 : Bool), v80 = .bool x80_99 ∧ Aside0 (laws_FnExactWithOutcome.j1 kq l1 t580 x80_99 l0_0 a0_1 a0_2 a0_3 l0_4 a0_5 l0_6 l0_7 l0_8 t561 t564 t565 t566 t567 t570 t571 t574 t577 t605 t608 t609 t610 t611 t614 t615 t618 t621 = some r) ∧ Aside0 (kq ≤ kj16) ∧ Aside0 (Kd.R k87 87 wc w.heap.size (fun k_ => nb k_ Ao39 t582.length co39 ∧ nb k_ Ao52 t605.length co52) (.slice Ao29 t561.length co29) t561) ∧ Aside0 (Kd.R (Kd.int .i64) 3 wc w.heap.size (fun k_ => nb k_ Ao34 t574.length co34 ∧ nb k_ Ao35 t577.length co35 ∧ nb k_ Ao43 t588.length co43 ∧ nb k_ Ao45 t595.length co45 ∧ nb k_ Ao46 t598.length co46 ∧ nb k_ Ao57 t611.length co57 ∧ nb k_ Ao59 t618.length co59 ∧ nb k_ Ao60 t621.length co60) (.slice Ao32 t567.length co32) t567) ∧ Aside0 (Kd.R k75 75 wc w.heap.size (fun k_ => nb k_ Ao44 t592.length co44 ∧ nb k_ Ao58 t615.length co58) (.slice Ao33 t571.length co33) t571) ∧ Aside0 (Kd.R (Kd.int .i64) 3 wc w.heap.size (fun k_ => nb k_ Ao32 t567.length co32 ∧ nb k_ Ao35 t577.length co35 ∧ nb k_ Ao43 t588.length co43 ∧ nb k_ Ao45 t595.length co45 ∧ nb k_ Ao46 t598.length co46 ∧ nb k_ Ao57 t611.length co57 ∧ nb k_ Ao59 t618.length co59 ∧ nb k_ Ao60 t621.length co60) (.slice Ao34 t574.length co34) t574) ∧ Aside0 (Kd.R (Kd.int .i64) 3 wc w.heap.size (fun k_ => nb k_ Ao32 t567.length co32 ∧ nb k_ Ao34 t574.length co34 ∧ nb k_ Ao43 t588.length co43 ∧ nb k_ Ao45 t595.length co45 ∧ nb k_ Ao46 t598.length co46 ∧ nb k_ Ao57 t611.length co57 ∧ nb k_ Ao59 t618.length co59 ∧ nb k_ Ao60 t621.length co60) (.slice Ao35 t577.length co35) t577) ∧ Aside0 (Kd.R k87 87 wc w.heap.size (fun k_ => nb k_ Ao29 t561.length co29 ∧ nb k_ Ao52 t605.length co52) (.slice Ao39 t582.length co39) t652) ∧ Aside0 (Kd.R (Kd.int .i64) 3 wc w.heap.size (fun k_ => nb k_ Ao32 t567.length co32 ∧ nb k_ Ao34 t574.length co34 ∧ nb k_ Ao35 t577.length co35 ∧ nb k_ Ao45 t595.length co45 ∧ nb k_ Ao46 t598.length co46 ∧ nb k_ Ao57 t611.length co57 ∧ nb k_ Ao59 t618.length co59 ∧ nb k_ Ao60 t621.length co60) (.slice Ao43 t588.length co43) t653) ∧ Aside0 (Kd.R k75 75 wc w.heap.size (fun k_ => nb k_ Ao33 t571.length co33 ∧ nb k_ Ao58 t615.length co58) (.slice Ao44 t592.length co44) t654) ∧ Aside0 (Kd.R (Kd.int .i64) 3 wc w.heap.size (fun k_ => nb k_ Ao32 t567.length co32 ∧ nb k_ Ao34 t574.length co34 ∧ nb k_ Ao35 t577.length co35 ∧ nb k_ Ao43 t588.length co43 ∧ nb k_ Ao46 t598.length co46 ∧ nb k_ Ao57 t611.length co57 ∧ nb k_ Ao59 t618.length co59 ∧ nb k_ Ao60 t621.length co60) (.slice Ao45 t595.length co45) t655) ∧ Aside0 (Kd.R (Kd.int .i64) 3 wc w.heap.size (fun k_ => nb k_ Ao32 t567.length co32 ∧ nb k_ Ao34 t574.length co34 ∧ nb k_ Ao35 t577.length co35 ∧ nb k_ Ao43 t588.length co43 ∧ nb k_ Ao45 t595.length co45 ∧ nb k_ Ao57 t611.length co57 ∧ nb k_ Ao59 t618.length co59 ∧ nb k_ Ao60 t621.length co60) (.slice Ao46 t598.length co46) t656) ∧ Aside0 (Kd.R k87 87 wc w.heap.size (fun k_ => nb k_ Ao29 t561.length co29 ∧ nb k_ Ao39 t582.length co39) (.slice Ao52 t605.length co52) t605) ∧ Aside0 (Kd.R (Kd.int .i64) 3 wc w.heap.size (fun k_ => nb k_ Ao32 t567.length co32 ∧ nb k_ Ao34 t574.length co34 ∧ nb k_ Ao35 t577.length co35 ∧ nb k_ Ao43 t588.length co43 ∧ nb k_ Ao45 t595.length co45 ∧ nb k_ Ao46 t598.length co46 ∧ nb k_ Ao59 t618.length co59 ∧ nb k_ Ao60 t621.length co60) (.slice Ao57 t611.length co57) t611) ∧ Aside0 (Kd.R k75 75 wc w.heap.size (fun k_ => nb k_ Ao33 t571.length co33 ∧ nb k_ Ao44 t592.length co44) (.slice Ao58 t615.length co58) t615) ∧ Aside0 (Kd.R (Kd.int .i64) 3 wc w.heap.size (fun k_ => nb k_ Ao32 t567.length co32 ∧ nb k_ Ao34 t574.length co34 ∧ nb k_ Ao35 t577.length co35 ∧ nb k_ Ao43 t588.length co43 ∧ nb k_ Ao45 t595.length co45 ∧ nb k_ Ao46 t598.length co46 ∧ nb k_ Ao57 t611.length co57 ∧ nb k_ Ao60 t621.length co60) (.slice Ao59 t618.length co59) t618) ∧ Aside0 (Kd.R (Kd.int .i64) 3 wc w.heap.size (fun k_ => nb k_ Ao32 t567.length co32 ∧ nb k_ Ao34 t574.length co34 ∧ nb k_ Ao35 t577.length co35 ∧ nb k_ Ao43 t588.length co43 ∧ nb k_ Ao45 t595.length co45 ∧ nb k_ Ao46 t598.length co46 ∧ nb k_ Ao57 t611.length co57 ∧ nb k_ Ao59 t618.length co59) (.slice Ao60 t621.length co60) t621) ∧ Aside0 (wc.heap[gb537]? = some (.cells #[(.slice A0_0 l0_0.length c0_0), .int .i64 a0_1, .int .i64 a0_2, .int .i64 a0_3, (.slice A0_4 l0_4.length c0_4), .bool a0_5, (.slice A0_6 l0_6.length c0_6), (.slice A0_7 l0_7.length c0_7), (.slice A0_8 l0_8.length c0_8)] 28 (0, 0))) ∧ Aside0 (wc.heap[gb581]? = some (.cells #[(.slice Ao29 t561.length co29), .int .i64 t564, .int .i64 t565, .int .i64 t566, (.slice Ao32 t567.length co32), .bool t570, (.slice Ao33 t571.length co33), (.slice Ao34 t574.length co34), (.slice Ao35 t577.length co35)] 34 (0, 0))) ∧ Aside0 (wc.heap[gb601]? = some (.cells #[(.slice Ao39 t582.length co39), .int .i64 t585, .int .i64 t586, .int .i64 t587, (.slice Ao43 t588.length co43), .bool t591, (.slice Ao44 t592.length co44), (.slice Ao45 t595.length co45), (.slice Ao46 t598.length co46)] 34 (0, 0))) ∧ Aside0 (wc.heap[gb625]? = some (.cells #[(.slice Ao52 t605.length co52), .int .i64 t608, .int .i64 t609, .int .i64 t610, (.slice Ao57 t611.length co57), .bool t614, (.slice Ao58 t615.length co58), (.slice Ao59 t618.length co59), (.slice Ao60 t621.length co60)] 34 (0, 0))) ∧ Aside0 (Below w.heap.size w wc))
        case first =>
         have H := HC100.out
         clear HC100
         by_cases c107 : t657 < 0
         ·rw [if_pos c107] at H
          have c107b0 : decide (t657 < 0) = true := decide_eq_true c107
          clear c107
          (first | rw [c107b0] | rw [c107b1] | (simp only [i64_w, i32_w]; rw [c107b0]) | skip)
          have H' := Aside0.mk H
          clear H
          go_wp2
          go_meet
          case rel => exact ⟨_, (true), e2_, H', ⟨by have := HJ16.out; first | omega | exact Nat.le_refl _⟩, ⟨ro HO_582000 (fun _ hk => ⟨hk.1, hk.2.1⟩)⟩, ⟨rp HO_582004⟩, ⟨ro HO_582006 (fun _ hk => ⟨hk.1, hk.2.1⟩)⟩, ⟨rp HO_582007⟩, ⟨rp HO_582008⟩, ⟨ro HO_602000 (fun _ hk => ⟨hk.1, hk.2.1⟩)⟩, ⟨rp HO_602004⟩, ⟨ro HO_602006 (fun _ hk => ⟨hk.1, hk.2.1⟩)⟩, ⟨rp HO_602007⟩, ⟨rp HO_602008⟩, ⟨ro HO_626000 (fun _ hk => ⟨hk.1, hk.2.1⟩)⟩, ⟨rp HO_626004⟩, ⟨ro HO_626006 (fun _ hk => ⟨hk.1, hk.2.1⟩)⟩, ⟨rp HO_626007⟩, ⟨rp HO_626008⟩, ⟨bk BK537⟩, ⟨bk BK581⟩, ⟨bk BK601⟩, ⟨bk BK625⟩, ⟨bb HB⟩⟩
         ·rw [if_neg c107] at H
          have c107b0 : decide (t657 < 0) = false := decide_eq_false c107
          clear c107
          (first | rw [c107b0] | rw [c107b1] | (simp only [i64_w, i32_w]; rw [c107b0]) | skip)
          replace H := Option.bind_eq_some_iff.mp H
          obtain ⟨t659, A1080, H⟩ := H
          try dsimp only at H
          have A108 := Aside0.mk A1080
          clear A1080
          by_cases c109 : t659 = true
          ·subst c109
           rw [if_pos rfl] at H
           have H' := Aside0.mk H
           clear H
           have hnb110 := NB625_537.out
           have hnc110 := NB537_625.out
           have hnb111 := NB625_581.out
           have hnc111 := NB581_625.out
           have hnb112 := NB625_601.out
           have hnc112 := NB601_625.out
           have ⟨hcz113_0, hcz113_1, hcz113_2, hcz113_3, hcz113_4, hcz113_5, hcz113_6, hcz113_7, hcz113_8, hfz113_0, hfz113_1, hfz113_2, hfz113_3, hfz113_4, hfz113_5, hfz113_6, hfz113_7, hfz113_8⟩ := rz9 BK625
           have hnb114 := NB581_537.out
           have hnc114 := NB537_581.out
           have hnb115 := NB581_601.out
           have hnc115 := NB601_581.out
           have ⟨hcz116_0, hcz116_1, hcz116_2, hcz116_3, hcz116_4, hcz116_5, hcz116_6, hcz116_7, hcz116_8, hfz116_0, hfz116_1, hfz116_2, hfz116_3, hfz116_4, hfz116_5, hfz116_6, hfz116_7, hfz116_8⟩ := rz9 BK581
           go_wp2_with (first | (go_at_call 11; (with_reducible refine (laws_eqBook.calls kj16 _ _ t605 t608 t609 t610 _ _ t611 t614 _ _ t615 _ _ t618 _ _ t621 _ _ t561 t564 t565 t566 _ _ t567 t570 _ _ t571 _ _ t574 _ _ t577 true _ ?side1 ?side2 ?side3 ?side4 ?side5 ?side6 ?side7 ?side8 ?side9 ?side10 ?side11 ?side12 ?side13 ?side14 ?side15 ?side16 ?side17 ?side18 ?side19 ?side20 A108.out).mono ?_); (case side1 => exact cr HO_626000); (case side2 => exact cl HO_626000); (case side3 => exact cr HO_626004); (case side4 => exact cl HO_626004); (case side5 => exact cr HO_626006); (case side6 => exact cl HO_626006); (case side7 => exact cr HO_626007); (case side8 => exact cl HO_626007); (case side9 => exact cr HO_626008); (case side10 => exact cl HO_626008); (case side11 => exact cr HO_582000); (case side12 => exact cl HO_582000); (case side13 => exact cr HO_582004); (case side14 => exact cl HO_582004); (case side15 => exact cr HO_582006); (case side16 => exact cl HO_582006); (case side17 => exact cr HO_582007); (case side18 => exact cl HO_582007); (case side19 => exact cr HO_582008); (case side20 => exact cl HO_582008); rintro e w117 ⟨rfl, hb⟩; replace HO_9 := kr HO_9 hb; replace HO_582000 := kr HO_582000 hb; replace HO_582004 := kr HO_582004 hb; replace HO_582006 := kr HO_582006 hb; replace HO_582007 := kr HO_582007 hb; replace HO_582008 := kr HO_582008 hb; replace HO_602000 := kr HO_602000 hb; replace HO_602004 := kr HO_602004 hb; replace HO_602006 := kr HO_602006 hb; replace HO_602007 := kr HO_602007 hb; replace HO_602008 := kr HO_602008 hb; replace HO_626000 := kr HO_626000 hb; replace HO_626004 := kr HO_626004 hb; replace HO_626006 := kr HO_626006 hb; replace HO_626007 := kr HO_626007 hb; replace HO_626008 := kr HO_626008 hb; replace HO629 := kr HO629 hb; replace HO635 := kr HO635 hb; replace HO639 := kr HO639 hb; replace HO642 := kr HO642 hb; replace HO645 := kr HO645 hb; replace HO649 := kr HO649 hb; replace BK537 := kb BK537 hb; replace BK581 := kb BK581 hb; replace BK601 := kb BK601 hb; replace BK625 := kb BK625 hb; replace HB := hs_ HB hb; (try clear hb hb2 hk hi)))
           go_meet
           case rel => exact ⟨_, ((t624 != t580)), e2_, H', ⟨by have := HJ16.out; first | omega | exact Nat.le_refl _⟩, ⟨ro HO_582000 (fun _ hk => ⟨hk.1, hk.2.1⟩)⟩, ⟨rp HO_582004⟩, ⟨ro HO_582006 (fun _ hk => ⟨hk.1, hk.2.1⟩)⟩, ⟨rp HO_582007⟩, ⟨rp HO_582008⟩, ⟨ro HO_602000 (fun _ hk => ⟨hk.1, hk.2.1⟩)⟩, ⟨rp HO_602004⟩, ⟨ro HO_602006 (fun _ hk => ⟨hk.1, hk.2.1⟩)⟩, ⟨rp HO_602007⟩, ⟨rp HO_602008⟩, ⟨ro HO_626000 (fun _ hk => ⟨hk.1, hk.2.1⟩)⟩, ⟨rp HO_626004⟩, ⟨ro HO_626006 (fun _ hk => ⟨hk.1, hk.2.1⟩)⟩, ⟨rp HO_626007⟩, ⟨rp HO_626008⟩, ⟨bk BK537⟩, ⟨bk BK581⟩, ⟨bk BK601⟩, ⟨bk BK625⟩, ⟨bb HB⟩⟩
          ·replace c109 := Bool.eq_false_iff.mpr c109
           subst c109
           rw [if_neg (show ¬ (false = true) by decide)] at H
           have H' := Aside0.mk H
           clear H
           have hnb118 := NB625_537.out
           have hnc118 := NB537_625.out
           have hnb119 := NB625_581.out
           have hnc119 := NB581_625.out
           have hnb120 := NB625_601.out
           have hnc120 := NB601_625.out
           have ⟨hcz121_0, hcz121_1, hcz121_2, hcz121_3, hcz121_4, hcz121_5, hcz121_6, hcz121_7, hcz121_8, hfz121_0, hfz121_1, hfz121_2, hfz121_3, hfz121_4, hfz121_5, hfz121_6, hfz121_7, hfz121_8⟩ := rz9 BK625
           have hnb122 := NB581_537.out
           have hnc122 := NB537_581.out
           have hnb123 := NB581_601.out
           have hnc123 := NB601_581.out
           have ⟨hcz124_0, hcz124_1, hcz124_2, hcz124_3, hcz124_4, hcz124_5, hcz124_6, hcz124_7, hcz124_8, hfz124_0, hfz124_1, hfz124_2, hfz124_3, hfz124_4, hfz124_5, hfz124_6, hfz124_7, hfz124_8⟩ := rz9 BK581
           go_wp2_with (first | (go_at_call 11; (with_reducible refine (laws_eqBook.calls kj16 _ _ t605 t608 t609 t610 _ _ t611 t614 _ _ t615 _ _ t618 _ _ t621 _ _ t561 t564 t565 t566 _ _ t567 t570 _ _ t571 _ _ t574 _ _ t577 false _ ?side1 ?side2 ?side3 ?side4 ?side5 ?side6 ?side7 ?side8 ?side9 ?side10 ?side11 ?side12 ?side13 ?side14 ?side15 ?side16 ?side17 ?side18 ?side19 ?side20 A108.out).mono ?_); (case side1 => exact cr HO_626000); (case side2 => exact cl HO_626000); (case side3 => exact cr HO_626004); (case side4 => exact cl HO_626004); (case side5 => exact cr HO_626006); (case side6 => exact cl HO_626006); (case side7 => exact cr HO_626007); (case side8 => exact cl HO_626007); (case side9 => exact cr HO_626008); (case side10 => exact cl HO_626008); (case side11 => exact cr HO_582000); (case side12 => exact cl HO_582000); (case side13 => exact cr HO_582004); (case side14 => exact cl HO_582004); (case side15 => exact cr HO_582006); (case side16 => exact cl HO_582006); (case side17 => exact cr HO_582007); (case side18 => exact cl HO_582007); (case side19 => exact cr HO_582008); (case side20 => exact cl HO_582008); rintro e w125 ⟨rfl, hb⟩; replace HO_9 := kr HO_9 hb; replace HO_582000 := kr HO_582000 hb; replace HO_582004 := kr HO_582004 hb; replace HO_582006 := kr HO_582006 hb; replace HO_582007 := kr HO_582007 hb; replace HO_582008 := kr HO_582008 hb; replace HO_602000 := kr HO_602000 hb; replace HO_602004 := kr HO_602004 hb; replace HO_602006 := kr HO_602006 hb; replace HO_602007 := kr HO_602007 hb; replace HO_602008 := kr HO_602008 hb; replace HO_626000 := kr HO_626000 hb; replace HO_626004 := kr HO_626004 hb; replace HO_626006 := kr HO_626006 hb; replace HO_626007 := kr HO_626007 hb; replace HO_626008 := kr HO_626008 hb; replace HO629 := kr HO629 hb; replace HO635 := kr HO635 hb; replace HO639 := kr HO639 hb; replace HO642 := kr HO642 hb; replace HO645 := kr HO645 hb; replace HO649 := kr HO649 hb; replace BK537 := kb BK537 hb; replace BK581 := kb BK581 hb; replace BK601 := kb BK601 hb; replace BK625 := kb BK625 hb; replace HB := hs_ HB hb; (try clear hb hb2 hk hi)))
           go_meet
           case rel => exact ⟨_, (true), e2_, H', ⟨by have := HJ16.out; first | omega | exact Nat.le_refl _⟩, ⟨ro HO_582000 (fun _ hk => ⟨hk.1, hk.2.1⟩)⟩, ⟨rp HO_582004⟩, ⟨ro HO_582006 (fun _ hk => ⟨hk.1, hk.2.1⟩)⟩, ⟨rp HO_582007⟩, ⟨rp HO_582008⟩, ⟨ro HO_602000 (fun _ hk => ⟨hk.1, hk.2.1⟩)⟩, ⟨rp HO_602004⟩, ⟨ro HO_602006 (fun _ hk => ⟨hk.1, hk.2.1⟩)⟩, ⟨rp HO_602007⟩, ⟨rp HO_602008⟩, ⟨ro HO_626000 (fun _ hk => ⟨hk.1, hk.2.1⟩)⟩, ⟨rp HO_626004⟩, ⟨ro HO_626006 (fun _ hk => ⟨hk.1, hk.2.1⟩)⟩, ⟨rp HO_626007⟩, ⟨rp HO_626008⟩, ⟨bk BK537⟩, ⟨bk BK581⟩, ⟨bk BK601⟩, ⟨bk BK625⟩, ⟨bb HB⟩⟩
        case rest =>
         clear HC100
         (try clear c1)
         (try clear p2)
         (try clear c7)
         (try clear c8)
         (try clear c9)
         (try clear c10)
         (try clear c11)
         (try clear c12)
         (try clear c13)
         (try clear c14)
         (try clear c79)
         (try clear c91)
         (try clear c97)
         (try clear c101)
         (try clear c102)
         (try clear c103)
         (try clear c107)
         (try clear c107b0)
         (try clear c107b1)
         (try clear c109)
         (try clear c110)
         (try clear c111)
         (try clear c112)
         (try clear c114)
         (try clear c115)
         (try clear c118)
         (try clear c119)
         (try clear c120)
         (try clear c122)
         (try clear c123)
         (try clear hcz104_0 hcz104_1 hcz104_2 hcz104_3 hcz104_4 hcz104_5 hcz104_6 hcz104_7 hcz104_8)
         (try clear hcz113_0 hcz113_1 hcz113_2 hcz113_3 hcz113_4 hcz113_5 hcz113_6 hcz113_7 hcz113_8)
         (try clear hcz116_0 hcz116_1 hcz116_2 hcz116_3 hcz116_4 hcz116_5 hcz116_6 hcz116_7 hcz116_8)
         (try clear hcz121_0 hcz121_1 hcz121_2 hcz121_3 hcz121_4 hcz121_5 hcz121_6 hcz121_7 hcz121_8)
         (try clear hcz124_0 hcz124_1 hcz124_2 hcz124_3 hcz124_4 hcz124_5 hcz124_6 hcz124_7 hcz124_8)
         (try clear hfz104_0 hfz104_1 hfz104_2 hfz104_3 hfz104_4 hfz104_5 hfz104_6 hfz104_7 hfz104_8)
         (try clear hfz113_0 hfz113_1 hfz113_2 hfz113_3 hfz113_4 hfz113_5 hfz113_6 hfz113_7 hfz113_8)
         (try clear hfz116_0 hfz116_1 hfz116_2 hfz116_3 hfz116_4 hfz116_5 hfz116_6 hfz116_7 hfz116_8)
         (try clear hfz121_0 hfz121_1 hfz121_2 hfz121_3 hfz121_4 hfz121_5 hfz121_6 hfz121_7 hfz121_8)
         (try clear hfz124_0 hfz124_1 hfz124_2 hfz124_3 hfz124_4 hfz124_5 hfz124_6 hfz124_7 hfz124_8)
         (try clear hfz69_1 hfz69_2 hfz69_3 hfz69_4 hfz69_5 hfz69_6 hfz69_7 hfz69_8)
         (try clear hfz74_0 hfz74_1 hfz74_2 hfz74_3 hfz74_4 hfz74_5 hfz74_6 hfz74_7 hfz74_8)
         (try clear hfz77_0 hfz77_1 hfz77_2 hfz77_3 hfz77_4 hfz77_5 hfz77_6 hfz77_7 hfz77_8)
         (try clear hfz8_0 hfz8_1 hfz8_2 hfz8_3 hfz8_4 hfz8_5 hfz8_6 hfz8_7 hfz8_8)
         obtain ⟨kq, x80_99, rfl, HA, HJ99, HO_582000, HO_582004, HO_582006, HO_582007, HO_582008, HO_602000, HO_602004, HO_602006, HO_602007, HO_602008, HO_626000, HO_626004, HO_626006, HO_626007, HO_626008, BK537, BK581, BK601, BK625, HB⟩ := hcut
         have hl602000_99 := (Kd.R_reads' HO_602000.out).1
         rw [hl602000_99] at HO_602000
         (try simp only [hl602000_99] at BK537 BK581 BK601 BK625 HO_582000 HO_582004 HO_582006 HO_582007 HO_582008 HO_602004 HO_602006 HO_602007 HO_602008 HO_626000 HO_626004 HO_626006 HO_626007 HO_626008 ⊢)
         have hl602004_99 := (Kd.R_reads' HO_602004.out).1
         rw [hl602004_99] at HO_602004
         (try simp only [hl602004_99] at BK537 BK581 BK601 BK625 HO_582000 HO_582004 HO_582006 HO_582007 HO_582008 HO_602000 HO_602006 HO_602007 HO_602008 HO_626000 HO_626004 HO_626006 HO_626007 HO_626008 ⊢)
         have hl602006_99 := (Kd.R_reads' HO_602006.out).1
         rw [hl602006_99] at HO_602006
         (try simp only [hl602006_99] at BK537 BK581 BK601 BK625 HO_582000 HO_582004 HO_582006 HO_582007 HO_582008 HO_602000 HO_602004 HO_602007 HO_602008 HO_626000 HO_626004 HO_626006 HO_626007 HO_626008 ⊢)
         have hl602007_99 := (Kd.R_reads' HO_602007.out).1
         rw [hl602007_99] at HO_602007
         (try simp only [hl602007_99] at BK537 BK581 BK601 BK625 HO_582000 HO_582004 HO_582006 HO_582007 HO_582008 HO_602000 HO_602004 HO_602006 HO_602008 HO_626000 HO_626004 HO_626006 HO_626007 HO_626008 ⊢)
         have hl602008_99 := (Kd.R_reads' HO_602008.out).1
         rw [hl602008_99] at HO_602008
         (try simp only [hl602008_99] at BK537 BK581 BK601 BK625 HO_582000 HO_582004 HO_582006 HO_582007 HO_582008 HO_602000 HO_602004 HO_602006 HO_602007 HO_626000 HO_626004 HO_626006 HO_626007 HO_626008 ⊢)
         cases kq with
         | zero => exact absurd HA.out (by simp [laws_FnExactWithOutcome.j1])
         | succ kj99 =>
          have H := HA.out
          clear HA
          simp only [laws_FnExactWithOutcome.j1] at H
          by_cases c126 : x80_99 = true
          ·subst c126
           rw [if_pos rfl] at H
           obtain rfl := Option.some.inj H
           go_wp2
           go_ret
           exact ⟨ee, bb HB⟩
          ·replace c126 := Bool.eq_false_iff.mpr c126
           subst c126
           rw [if_neg (show ¬ (false = true) by decide)] at H
           replace H := Option.bind_eq_some_iff.mp H
           obtain ⟨⟨t660, t661, t662, t663, t664, t665⟩, A1270, H⟩ := H
           try dsimp only at H
           have A127 := Aside0.mk A1270
           clear A1270
           replace H := Option.bind_eq_some_iff.mp H
           obtain ⟨t666, A1280, H⟩ := H
           try dsimp only at H
           have A128 := Aside0.mk A1280
           clear A1280
           have HC129 := Aside0.mk H
           clear H
           have hnb130 := NB625_537.out
           have hnc130 := NB537_625.out
           have hnb131 := NB625_581.out
           have hnc131 := NB581_625.out
           have hnb132 := NB625_601.out
           have hnc132 := NB601_625.out
           have ⟨hcz133_0, hcz133_1, hcz133_2, hcz133_3, hcz133_4, hcz133_5, hcz133_6, hcz133_7, hcz133_8, hfz133_0, hfz133_1, hfz133_2, hfz133_3, hfz133_4, hfz133_5, hfz133_6, hfz133_7, hfz133_8⟩ := rz9 BK625
           go_upto_if 88 with (first | ((with_reducible refine gate_callee (f := 13) rfl ?_); refine gl (some 83) Try.func13 #[.agg #[.slice Ao52 t605.length co52, .int .i64 t608, .int .i64 t609, .int .i64 t610, .slice Ao57 t611.length co57, .bool t614, .slice Ao58 t615.length co58, .slice Ao59 t618.length co59, .slice Ao60 t621.length co60], .int .i64 1] ?_; (with_reducible refine (laws_markBook.calls kj99 (fun k_ => some k_ = (.slice Ao52 t605.length co52 : Value).ownBlock) (.slice Ao52 t605.length co52) t605 t608 t609 t610 (fun k_ => some k_ = (.slice Ao57 t611.length co57 : Value).ownBlock) (.slice Ao57 t611.length co57) t611 t614 (fun k_ => some k_ = (.slice Ao58 t615.length co58 : Value).ownBlock) (.slice Ao58 t615.length co58) t615 (fun k_ => some k_ = (.slice Ao59 t618.length co59 : Value).ownBlock) (.slice Ao59 t618.length co59) t618 (fun k_ => some k_ = (.slice Ao60 t621.length co60 : Value).ownBlock) (.slice Ao60 t621.length co60) t621 1 t660 t661 t662 t663 t664 t665 w _ ?side1 ?side2 ?side3 ?side4 ?side5 ?side6 ?side7 ?side8 ?side9 ?side10 ?side11 ?side12 A127.out).mono ?_); (case side1 => exact bb HB); (case side2 => exact Kd.R_tight rfl HO_626000.out); (case side3 => exact Kd.R_tight rfl HO_626004.out); (case side4 => exact fun k_ e_ => (HO_626004.out.1 k_ e_.symm).2.2.2.2.2.2.1); (case side5 => exact fun k_ e_ => (HO_626004.out.1 k_ e_.symm).2.2.2.2.2.2.2); (case side6 => exact Kd.R_tight rfl HO_626006.out); (case side7 => exact Kd.R_tight rfl HO_626007.out); (case side8 => exact fun k_ e_ => (HO_626007.out.1 k_ e_.symm).2.2.2.2.2.2.1); (case side9 => exact fun k_ e_ => (HO_626007.out.1 k_ e_.symm).2.2.2.2.2.2.2); (case side10 => exact Kd.R_tight rfl HO_626008.out); (case side11 => exact fun k_ e_ => (HO_626008.out.1 k_ e_.symm).2.2.2.2.2.2.1); (case side12 => exact fun k_ e_ => (HO_626008.out.1 k_ e_.symm).2.2.2.2.2.2.2); rintro e w134 ⟨rfl, hy0, hy1, hy2, hy3, hy4, hb, hkp⟩; refine ⟨_, rfl, ?_⟩; replace HO_582000 := km hkp (ra (ra (ra (ra HO_582000.out HO_626004) HO_626006) HO_626007) HO_626008) (fun k_ hk_ => oe hk_.1.1.1.1.2 (oe hk_.1.1.1.2 (oe hk_.1.1.2 (oe hk_.1.2 hk_.2)))) (fun k_ hk_ => ai hk_.1.1.1.1.1 hk_.1.1.1.1.2); replace HO_582004 := km hkp (ra (ra HO_582004.out HO_626000) HO_626006) (fun k_ hk_ => oe hk_.1.2 (oe hk_.1.1.2.2.2.2.2.1 (oe hk_.2 (oe hk_.1.1.2.2.2.2.2.2.1 hk_.1.1.2.2.2.2.2.2.2)))) (fun k_ hk_ => ai hk_.1.1.1 (ai hk_.1.1.2.1 (ai hk_.1.1.2.2.1 (ai hk_.1.1.2.2.2.1 (ai hk_.1.1.2.2.2.2.1 (ai hk_.1.1.2.2.2.2.2.1 (ai hk_.1.1.2.2.2.2.2.2.1 hk_.1.1.2.2.2.2.2.2.2))))))); replace HO_582006 := km hkp (ra (ra (ra (ra HO_582006.out HO_626000) HO_626004) HO_626007) HO_626008) (fun k_ hk_ => oe hk_.1.1.1.2 (oe hk_.1.1.2 (oe hk_.1.1.1.1.2 (oe hk_.1.2 hk_.2)))) (fun k_ hk_ => ai hk_.1.1.1.1.1 hk_.1.1.1.1.2); replace HO_582007 := km hkp (ra (ra HO_582007.out HO_626000) HO_626006) (fun k_ hk_ => oe hk_.1.2 (oe hk_.1.1.2.2.2.2.2.1 (oe hk_.2 (oe hk_.1.1.2.2.2.2.2.2.1 hk_.1.1.2.2.2.2.2.2.2)))) (fun k_ hk_ => ai hk_.1.1.1 (ai hk_.1.1.2.1 (ai hk_.1.1.2.2.1 (ai hk_.1.1.2.2.2.1 (ai hk_.1.1.2.2.2.2.1 (ai hk_.1.1.2.2.2.2.2.1 (ai hk_.1.1.2.2.2.2.2.2.1 hk_.1.1.2.2.2.2.2.2.2))))))); replace HO_582008 := km hkp (ra (ra HO_582008.out HO_626000) HO_626006) (fun k_ hk_ => oe hk_.1.2 (oe hk_.1.1.2.2.2.2.2.1 (oe hk_.2 (oe hk_.1.1.2.2.2.2.2.2.1 hk_.1.1.2.2.2.2.2.2.2)))) (fun k_ hk_ => ai hk_.1.1.1 (ai hk_.1.1.2.1 (ai hk_.1.1.2.2.1 (ai hk_.1.1.2.2.2.1 (ai hk_.1.1.2.2.2.2.1 (ai hk_.1.1.2.2.2.2.2.1 (ai hk_.1.1.2.2.2.2.2.2.1 hk_.1.1.2.2.2.2.2.2.2))))))); replace HO_602000 := km hkp (ra (ra (ra (ra HO_602000.out HO_626004) HO_626006) HO_626007) HO_626008) (fun k_ hk_ => oe hk_.1.1.1.1.2 (oe hk_.1.1.1.2 (oe hk_.1.1.2 (oe hk_.1.2 hk_.2)))) (fun k_ hk_ => ai hk_.1.1.1.1.1 hk_.1.1.1.1.2); replace HO_602004 := km hkp (ra (ra HO_602004.out HO_626000) HO_626006) (fun k_ hk_ => oe hk_.1.2 (oe hk_.1.1.2.2.2.2.2.1 (oe hk_.2 (oe hk_.1.1.2.2.2.2.2.2.1 hk_.1.1.2.2.2.2.2.2.2)))) (fun k_ hk_ => ai hk_.1.1.1 (ai hk_.1.1.2.1 (ai hk_.1.1.2.2.1 (ai hk_.1.1.2.2.2.1 (ai hk_.1.1.2.2.2.2.1 (ai hk_.1.1.2.2.2.2.2.1 (ai hk_.1.1.2.2.2.2.2.2.1 hk_.1.1.2.2.2.2.2.2.2))))))); replace HO_602006 := km hkp (ra (ra (ra (ra HO_602006.out HO_626000) HO_626004) HO_626007) HO_626008) (fun k_ hk_ => oe hk_.1.1.1.2 (oe hk_.1.1.2 (oe hk_.1.1.1.1.2 (oe hk_.1.2 hk_.2)))) (fun k_ hk_ => ai hk_.1.1.1.1.1 hk_.1.1.1.1.2); replace HO_602007 := km hkp (ra (ra HO_602007.out HO_626000) HO_626006) (fun k_ hk_ => oe hk_.1.2 (oe hk_.1.1.2.2.2.2.2.1 (oe hk_.2 (oe hk_.1.1.2.2.2.2.2.2.1 hk_.1.1.2.2.2.2.2.2.2)))) (fun k_ hk_ => ai hk_.1.1.1 (ai hk_.1.1.2.1 (ai hk_.1.1.2.2.1 (ai hk_.1.1.2.2.2.1 (ai hk_.1.1.2.2.2.2.1 (ai hk_.1.1.2.2.2.2.2.1 (ai hk_.1.1.2.2.2.2.2.2.1 hk_.1.1.2.2.2.2.2.2.2))))))); replace HO_602008 := km hkp (ra (ra HO_602008.out HO_626000) HO_626006) (fun k_ hk_ => oe hk_.1.2 (oe hk_.1.1.2.2.2.2.2.1 (oe hk_.2 (oe hk_.1.1.2.2.2.2.2.2.1 hk_.1.1.2.2.2.2.2.2.2)))) (fun k_ hk_ => ai hk_.1.1.1 (ai hk_.1.1.2.1 (ai hk_.1.1.2.2.1 (ai hk_.1.1.2.2.2.1 (ai hk_.1.1.2.2.2.2.1 (ai hk_.1.1.2.2.2.2.2.1 (ai hk_.1.1.2.2.2.2.2.2.1 hk_.1.1.2.2.2.2.2.2.2))))))); replace BK537 := Aside0.mk (blk_kept (bk BK537) hkp (fun hs_ => Or.elim hs_ (fun e_ => (fun e_ => (Kd.R_ne HO_626000.out BK537.out (by decide)) e_) e_) (fun e_ => Or.elim e_ (fun e_ => (fun e_ => (Kd.R_ne HO_626004.out BK537.out (by decide)) e_) e_) (fun e_ => Or.elim e_ (fun e_ => (fun e_ => (Kd.R_ne HO_626006.out BK537.out (by decide)) e_) e_) (fun e_ => Or.elim e_ (fun e_ => (fun e_ => (Kd.R_ne HO_626007.out BK537.out (by decide)) e_) e_) (fun e_ => (fun e_ => (Kd.R_ne HO_626008.out BK537.out (by decide)) e_) e_)))))); replace BK581 := Aside0.mk (blk_kept (bk BK581) hkp (fun hs_ => Or.elim hs_ (fun e_ => (fun e_ => (Kd.R_ne HO_626000.out BK581.out (by decide)) e_) e_) (fun e_ => Or.elim e_ (fun e_ => (fun e_ => (Kd.R_ne HO_626004.out BK581.out (by decide)) e_) e_) (fun e_ => Or.elim e_ (fun e_ => (fun e_ => (Kd.R_ne HO_626006.out BK581.out (by decide)) e_) e_) (fun e_ => Or.elim e_ (fun e_ => (fun e_ => (Kd.R_ne HO_626007.out BK581.out (by decide)) e_) e_) (fun e_ => (fun e_ => (Kd.R_ne HO_626008.out BK581.out (by decide)) e_) e_)))))); replace BK601 := Aside0.mk (blk_kept (bk BK601) hkp (fun hs_ => Or.elim hs_ (fun e_ => (fun e_ => (Kd.R_ne HO_626000.out BK601.out (by decide)) e_) e_) (fun e_ => Or.elim e_ (fun e_ => (fun e_ => (Kd.R_ne HO_626004.out BK601.out (by decide)) e_) e_) (fun e_ => Or.elim e_ (fun e_ => (fun e_ => (Kd.R_ne HO_626006.out BK601.out (by decide)) e_) e_) (fun e_ => Or.elim e_ (fun e_ => (fun e_ => (Kd.R_ne HO_626007.out BK601.out (by decide)) e_) e_) (fun e_ => (fun e_ => (Kd.R_ne HO_626008.out BK601.out (by decide)) e_) e_)))))); replace BK625 := Aside0.mk (blk_kept (bk BK625) hkp (fun hs_ => Or.elim hs_ (fun e_ => (fun e_ => (Kd.R_ne HO_626000.out BK625.out (by decide)) e_) e_) (fun e_ => Or.elim e_ (fun e_ => (fun e_ => (Kd.R_ne HO_626004.out BK625.out (by decide)) e_) e_) (fun e_ => Or.elim e_ (fun e_ => (fun e_ => (Kd.R_ne HO_626006.out BK625.out (by decide)) e_) e_) (fun e_ => Or.elim e_ (fun e_ => (fun e_ => (Kd.R_ne HO_626007.out BK625.out (by decide)) e_) e_) (fun e_ => (fun e_ => (Kd.R_ne HO_626008.out BK625.out (by decide)) e_) e_)))))); replace HO_626000 := Aside0.mk (Kd.R_reok rfl hy0 (fun k_ e_ => HO_626000.out.1 k_ e_)); replace HO_626004 := Aside0.mk (Kd.R_reok rfl hy1 (fun k_ e_ => HO_626004.out.1 k_ e_)); replace HO_626006 := Aside0.mk (Kd.R_reok rfl hy2 (fun k_ e_ => HO_626006.out.1 k_ e_)); replace HO_626007 := Aside0.mk (Kd.R_reok rfl hy3 (fun k_ e_ => HO_626007.out.1 k_ e_)); replace HO_626008 := Aside0.mk (Kd.R_reok rfl hy4 (fun k_ e_ => HO_626008.out.1 k_ e_)); replace HB := Aside0.mk (hb); (try clear hb hkp hy0 hy1 hy2 hy3 hy4); have ⟨hcz135_0, hcz135_1, hcz135_2, hcz135_3, hcz135_4, hcz135_5, hcz135_6, hcz135_7, hcz135_8, hfz135_0, hfz135_1, hfz135_2, hfz135_3, hfz135_4, hfz135_5, hfz135_6, hfz135_7, hfz135_8⟩ := rz9 BK625) | ((with_reducible refine gate_callee (f := 15) rfl ?_); refine goesL_ (some 86) rfl rfl Try.func15 (by kernel_rfl) rfl #[.agg #[.slice Ao52 t661.length co52, .int .i64 t608, .int .i64 t609, .int .i64 t610, .slice Ao57 t662.length co57, .bool t614, .slice Ao58 t663.length co58, .slice Ao59 t664.length co59, .slice Ao60 t665.length co60], .int .i64 1] rfl (by (try simp only [List.map_toArray, List.map_cons, List.map_nil]); first | done | (rw [show t661.length = t605.length from (Kd.R_reads' HO_626000.out).1.symm, show t662.length = t611.length from (Kd.R_reads' HO_626004.out).1.symm, show t663.length = t615.length from (Kd.R_reads' HO_626006.out).1.symm, show t664.length = t618.length from (Kd.R_reads' HO_626007.out).1.symm, show t665.length = t621.length from (Kd.R_reads' HO_626008.out).1.symm] <;> rfl) | rfl | (simp only [List.length_drop, List.length_take]; rfl)) ?_; (with_reducible refine (laws_heldBook.calls kj99 _ _ t661 t608 t609 t610 _ _ t662 t614 _ _ t663 _ _ t664 _ _ t665 1 t666 _ ?side1 ?side2 ?side3 ?side4 ?side5 ?side6 ?side7 ?side8 ?side9 ?side10 A128.out).mono ?_); (case side1 => exact cr HO_626000); (case side2 => rw [show t661.length = t605.length from (Kd.R_reads' HO_626000.out).1.symm]; exact (Kd.R_reads' HO_626000.out).2.1); (case side3 => exact cr HO_626004); (case side4 => rw [show t662.length = t611.length from (Kd.R_reads' HO_626004.out).1.symm]; exact (Kd.R_reads' HO_626004.out).2.1); (case side5 => exact cr HO_626006); (case side6 => rw [show t663.length = t615.length from (Kd.R_reads' HO_626006.out).1.symm]; exact (Kd.R_reads' HO_626006.out).2.1); (case side7 => exact cr HO_626007); (case side8 => rw [show t664.length = t618.length from (Kd.R_reads' HO_626007.out).1.symm]; exact (Kd.R_reads' HO_626007.out).2.1); (case side9 => exact cr HO_626008); (case side10 => rw [show t665.length = t621.length from (Kd.R_reads' HO_626008.out).1.symm]; exact (Kd.R_reads' HO_626008.out).2.1); rintro e w136 ⟨rfl, hb⟩; refine ⟨_, rfl, ?_⟩; replace HO_582000 := kr HO_582000 hb; replace HO_582004 := kr HO_582004 hb; replace HO_582006 := kr HO_582006 hb; replace HO_582007 := kr HO_582007 hb; replace HO_582008 := kr HO_582008 hb; replace HO_602000 := kr HO_602000 hb; replace HO_602004 := kr HO_602004 hb; replace HO_602006 := kr HO_602006 hb; replace HO_602007 := kr HO_602007 hb; replace HO_602008 := kr HO_602008 hb; replace HO_626000 := kr HO_626000 hb; replace HO_626004 := kr HO_626004 hb; replace HO_626006 := kr HO_626006 hb; replace HO_626007 := kr HO_626007 hb; replace HO_626008 := kr HO_626008 hb; replace BK537 := kb BK537 hb; replace BK581 := kb BK581 hb; replace BK601 := kb BK601 hb; replace BK625 := kb BK625 hb; replace HB := hs_ HB hb; (try clear hb hb2 hk hi)))
           (try simp only [Act.put, List.setIfInBounds_toArray, List.set_cons_zero, List.set_cons_succ])
           have H := HC129.out
           clear HC129
           by_cases c137 : t666 < 0
           ·rw [if_pos c137] at H
            have c137b0 : decide (t666 < 0) = true := decide_eq_true c137
            clear c137
            (first | rw [c137b0] | rw [c137b1] | (simp only [i64_w, i32_w]; rw [c137b0]) | skip)
            obtain rfl := Option.some.inj H
            go_wp2
            go_ret
            exact ⟨ee, bb HB⟩
           ·rw [if_neg c137] at H
            have c137b0 : decide (t666 < 0) = false := decide_eq_false c137
            clear c137
            (first | rw [c137b0] | rw [c137b1] | (simp only [i64_w, i32_w]; rw [c137b0]) | skip)
            by_cases c138 : t666 = t660
            ·rw [if_pos c138] at H
             have c138b0 : (t666 == t660) = true := beq_iff_eq.mpr c138
             have c138b1 : (t666 != t660) = false := bne_eq_false_iff_eq.mpr c138
             clear c138
             replace H := Option.bind_eq_some_iff.mp H
             obtain ⟨⟨t667, t670, t671, t672, t673, t676, t677, t680, t683⟩, A1390, H⟩ := H
             try dsimp only at H
             have A139 := Aside0.mk A1390
             clear A1390
             replace H := Option.bind_eq_some_iff.mp H
             obtain ⟨t686, A1400, H⟩ := H
             try dsimp only at H
             have A140 := Aside0.mk A1400
             clear A1400
             replace H := Option.bind_eq_some_iff.mp H
             obtain ⟨⟨t689, t692, t693, t694, t695, t698, t699, t702, t705, t708⟩, A1410, H⟩ := H
             try dsimp only at H
             have A141 := Aside0.mk A1410
             clear A1410
             have HC142 := Aside0.mk H
             clear H
             have hnb143 := NB537_581.out
             have hnc143 := NB581_537.out
             have hnb144 := NB537_601.out
             have hnc144 := NB601_537.out
             have hnb145 := NB537_625.out
             have hnc145 := NB625_537.out
             have ⟨hcz146_0, hcz146_1, hcz146_2, hcz146_3, hcz146_4, hcz146_5, hcz146_6, hcz146_7, hcz146_8, hfz146_0, hfz146_1, hfz146_2, hfz146_3, hfz146_4, hfz146_5, hfz146_6, hfz146_7, hfz146_8⟩ := rz9 BK537
             go_upto_region 31 with (first | ((with_reducible refine gate_callee (f := 8) rfl ?_); refine gl (some 94) Try.func8 #[.agg #[.slice A0_0 l0_0.length c0_0, .int .i64 a0_1, .int .i64 a0_2, .int .i64 a0_3, .slice A0_4 l0_4.length c0_4, .bool a0_5, .slice A0_6 l0_6.length c0_6, .slice A0_7 l0_7.length c0_7, .slice A0_8 l0_8.length c0_8]] ?_; (with_reducible refine (laws_toBook.calls kj99 _ _ l0_0 a0_1 a0_2 a0_3 _ _ l0_4 a0_5 _ _ l0_6 _ _ l0_7 _ _ l0_8 t667 t670 t671 t672 t673 t676 t677 t680 t683 _ ?side1 ?side2 ?side3 ?side4 ?side5 ?side6 ?side7 ?side8 ?side9 ?side10 A139.out).mono ?_); (case side1 => exact cc HR0_0 HB); (case side2 => exact HC0_0.out); (case side3 => exact cc HR0_4 HB); (case side4 => exact HC0_4.out); (case side5 => exact cc HR0_6 HB); (case side6 => exact HC0_6.out); (case side7 => exact cc HR0_7 HB); (case side8 => exact HC0_7.out); (case side9 => exact cc HR0_8 HB); (case side10 => exact HC0_8.out); rintro e w147 ⟨v668, v674, v678, v681, v684, rfl, ho0, ho1, ho2, ho3, ho4, hb⟩; refine ⟨_, rfl, ?_⟩; have HO669 := Aside0.mk (Kd.R_lower (Kd.R_new' (Kd.R_new' (Kd.R_new' ho0 (rt HO_582000)) (rt HO_602000)) (rt HO_626000)) (below_size (bb HB))); replace HO_582000 := ke HO_582000 ho0 hb; replace HO_602000 := ke HO_602000 ho0 hb; replace HO_626000 := ke HO_626000 ho0 hb; have HO675 := Aside0.mk (Kd.R_lower (Kd.R_new' (Kd.R_new' (Kd.R_new' (Kd.R_new' (Kd.R_new' (Kd.R_new' (Kd.R_new' (Kd.R_new' (Kd.R_new' ho1 (rt HO_582004)) (rt HO_582007)) (rt HO_582008)) (rt HO_602004)) (rt HO_602007)) (rt HO_602008)) (rt HO_626004)) (rt HO_626007)) (rt HO_626008)) (below_size (bb HB))); have HO679 := Aside0.mk (Kd.R_lower (Kd.R_new' (Kd.R_new' (Kd.R_new' ho2 (rt HO_582006)) (rt HO_602006)) (rt HO_626006)) (below_size (bb HB))); replace HO_582006 := ke HO_582006 ho2 hb; replace HO_602006 := ke HO_602006 ho2 hb; replace HO_626006 := ke HO_626006 ho2 hb; have HO682 := Aside0.mk (Kd.R_lower (Kd.R_new' (Kd.R_new' (Kd.R_new' (Kd.R_new' (Kd.R_new' (Kd.R_new' (Kd.R_new' (Kd.R_new' (Kd.R_new' ho3 (rt HO_582004)) (rt HO_582007)) (rt HO_582008)) (rt HO_602004)) (rt HO_602007)) (rt HO_602008)) (rt HO_626004)) (rt HO_626007)) (rt HO_626008)) (below_size (bb HB))); have HO685 := Aside0.mk (Kd.R_lower (Kd.R_new' (Kd.R_new' (Kd.R_new' (Kd.R_new' (Kd.R_new' (Kd.R_new' (Kd.R_new' (Kd.R_new' (Kd.R_new' ho4 (rt HO_582004)) (rt HO_582007)) (rt HO_582008)) (rt HO_602004)) (rt HO_602007)) (rt HO_602008)) (rt HO_626004)) (rt HO_626007)) (rt HO_626008)) (below_size (bb HB))); replace HO_582004 := Aside0.mk (Kd.R_mono (Kd.R_told (Kd.R_told (Kd.R_told (Kd.R_old (rr HO_582004) hb) (Kd.R_base ho1)) (Kd.R_base ho3)) (Kd.R_base ho4)) (fun _ h_ => h_.1)); replace HO_582007 := Aside0.mk (Kd.R_mono (Kd.R_told (Kd.R_told (Kd.R_told (Kd.R_old (rr HO_582007) hb) (Kd.R_base ho1)) (Kd.R_base ho3)) (Kd.R_base ho4)) (fun _ h_ => h_.1)); replace HO_582008 := Aside0.mk (Kd.R_mono (Kd.R_told (Kd.R_told (Kd.R_told (Kd.R_old (rr HO_582008) hb) (Kd.R_base ho1)) (Kd.R_base ho3)) (Kd.R_base ho4)) (fun _ h_ => h_.1)); replace HO_602004 := Aside0.mk (Kd.R_mono (Kd.R_told (Kd.R_told (Kd.R_told (Kd.R_old (rr HO_602004) hb) (Kd.R_base ho1)) (Kd.R_base ho3)) (Kd.R_base ho4)) (fun _ h_ => h_.1)); replace HO_602007 := Aside0.mk (Kd.R_mono (Kd.R_told (Kd.R_told (Kd.R_told (Kd.R_old (rr HO_602007) hb) (Kd.R_base ho1)) (Kd.R_base ho3)) (Kd.R_base ho4)) (fun _ h_ => h_.1)); replace HO_602008 := Aside0.mk (Kd.R_mono (Kd.R_told (Kd.R_told (Kd.R_told (Kd.R_old (rr HO_602008) hb) (Kd.R_base ho1)) (Kd.R_base ho3)) (Kd.R_base ho4)) (fun _ h_ => h_.1)); replace HO_626004 := Aside0.mk (Kd.R_mono (Kd.R_told (Kd.R_told (Kd.R_told (Kd.R_old (rr HO_626004) hb) (Kd.R_base ho1)) (Kd.R_base ho3)) (Kd.R_base ho4)) (fun _ h_ => h_.1)); replace HO_626007 := Aside0.mk (Kd.R_mono (Kd.R_told (Kd.R_told (Kd.R_told (Kd.R_old (rr HO_626007) hb) (Kd.R_base ho1)) (Kd.R_base ho3)) (Kd.R_base ho4)) (fun _ h_ => h_.1)); replace HO_626008 := Aside0.mk (Kd.R_mono (Kd.R_told (Kd.R_told (Kd.R_told (Kd.R_old (rr HO_626008) hb) (Kd.R_base ho1)) (Kd.R_base ho3)) (Kd.R_base ho4)) (fun _ h_ => h_.1)); replace BK537 := kb BK537 hb; replace BK581 := kb BK581 hb; replace BK601 := kb BK601 hb; replace BK625 := kb BK625 hb; replace HB := hs_ HB hb; (try clear hb hb2 hk hi ho0 ho1 ho2 ho3 ho4)) | ((with_reducible refine gate_callee (f := 9) rfl ?_); refine gl (some 96) Try.func9 #[.slice A1 l1.length c1] ?_; (with_reducible refine (laws_toIntS.calls kj99 _ _ l1 t686 _ ?side1 ?side2 A140.out).mono ?_); (case side1 => exact cc HR1 HB); (case side2 => exact HC1.out); rintro e w148 ⟨v687, rfl, ho0, hb⟩; refine ⟨_, rfl, ?_⟩; replace HO_582000 := kr HO_582000 hb; replace HO_582006 := kr HO_582006 hb; replace HO_602000 := kr HO_602000 hb; replace HO_602006 := kr HO_602006 hb; replace HO_626000 := kr HO_626000 hb; replace HO_626006 := kr HO_626006 hb; replace HO669 := kr HO669 hb; replace HO679 := kr HO679 hb; have HO688 := Aside0.mk (Kd.R_lower (Kd.R_new' (Kd.R_new' (Kd.R_new' (Kd.R_new' (Kd.R_new' (Kd.R_new' (Kd.R_new' (Kd.R_new' (Kd.R_new' (Kd.R_new' (Kd.R_new' (Kd.R_new' ho0 (rt HO_582004)) (rt HO_582007)) (rt HO_582008)) (rt HO_602004)) (rt HO_602007)) (rt HO_602008)) (rt HO_626004)) (rt HO_626007)) (rt HO_626008)) (rt HO675)) (rt HO682)) (rt HO685)) (below_size (bb HB))); replace HO_582004 := ke HO_582004 ho0 hb; replace HO_582007 := ke HO_582007 ho0 hb; replace HO_582008 := ke HO_582008 ho0 hb; replace HO_602004 := ke HO_602004 ho0 hb; replace HO_602007 := ke HO_602007 ho0 hb; replace HO_602008 := ke HO_602008 ho0 hb; replace HO_626004 := ke HO_626004 ho0 hb; replace HO_626007 := ke HO_626007 ho0 hb; replace HO_626008 := ke HO_626008 ho0 hb; replace HO675 := ke HO675 ho0 hb; replace HO682 := ke HO682 ho0 hb; replace HO685 := ke HO685 ho0 hb; replace BK537 := kb BK537 hb; replace BK581 := kb BK581 hb; replace BK601 := kb BK601 hb; replace BK625 := kb BK625 hb; replace HB := hs_ HB hb; (try clear hb hb2 hk hi ho0); obtain ⟨Ao149, co149, eo149⟩ := Kd.R_slice HO669.out; subst eo149; obtain ⟨Ao150, co150, eo150⟩ := Kd.R_slice HO675.out; subst eo150; obtain ⟨Ao151, co151, eo151⟩ := Kd.R_slice HO679.out; subst eo151; obtain ⟨Ao152, co152, eo152⟩ := Kd.R_slice HO682.out; subst eo152; obtain ⟨Ao153, co153, eo153⟩ := Kd.R_slice HO685.out; subst eo153; obtain ⟨Ao154, co154, eo154⟩ := Kd.R_slice HO688.out; subst eo154) | ((with_reducible refine gate_callee (f := 10) rfl ?_); refine gl (some 97) Try.func10 #[.agg #[.slice Ao149 t667.length co149, .int .i64 t670, .int .i64 t671, .int .i64 t672, .slice Ao150 t673.length co150, .bool t676, .slice Ao151 t677.length co151, .slice Ao152 t680.length co152, .slice Ao153 t683.length co153], .slice Ao154 t686.length co154] ?_; (with_reducible refine (impl_WithOutcome.calls kj99 _ _ t667 t670 t671 t672 _ _ t673 t676 _ _ t677 _ _ t680 _ _ t683 _ _ t686 t689 t692 t693 t694 t695 t698 t699 t702 t705 t708 _ ?side1 ?side2 ?side3 ?side4 ?side5 ?side6 ?side7 ?side8 ?side9 ?side10 ?side11 ?side12 A141.out).mono ?_); (case side1 => exact cr HO669); (case side2 => exact cl HO669); (case side3 => exact cr HO675); (case side4 => exact cl HO675); (case side5 => exact cr HO679); (case side6 => exact cl HO679); (case side7 => exact cr HO682); (case side8 => exact cl HO682); (case side9 => exact cr HO685); (case side10 => exact cl HO685); (case side11 => exact cr HO688); (case side12 => exact cl HO688); rintro e w155 ⟨v690, v696, v700, v703, v706, rfl, ho0, ho1, ho2, ho3, ho4, hb⟩; refine ⟨_, rfl, ?_⟩; have HO691 := Aside0.mk (Kd.R_lower (Kd.R_new' (Kd.R_new' (Kd.R_new' (Kd.R_new' ho0 (rt HO_582000)) (rt HO_602000)) (rt HO_626000)) (rt HO669)) (below_size (bb HB))); replace HO_582000 := ke HO_582000 ho0 hb; replace HO_602000 := ke HO_602000 ho0 hb; replace HO_626000 := ke HO_626000 ho0 hb; replace HO669 := ke HO669 ho0 hb; have HO697 := Aside0.mk (Kd.R_lower (Kd.R_new' (Kd.R_new' (Kd.R_new' (Kd.R_new' (Kd.R_new' (Kd.R_new' (Kd.R_new' (Kd.R_new' (Kd.R_new' (Kd.R_new' (Kd.R_new' (Kd.R_new' (Kd.R_new' ho1 (rt HO_582004)) (rt HO_582007)) (rt HO_582008)) (rt HO_602004)) (rt HO_602007)) (rt HO_602008)) (rt HO_626004)) (rt HO_626007)) (rt HO_626008)) (rt HO675)) (rt HO682)) (rt HO685)) (rt HO688)) (below_size (bb HB))); have HO701 := Aside0.mk (Kd.R_lower (Kd.R_new' (Kd.R_new' (Kd.R_new' (Kd.R_new' ho2 (rt HO_582006)) (rt HO_602006)) (rt HO_626006)) (rt HO679)) (below_size (bb HB))); replace HO_582006 := ke HO_582006 ho2 hb; replace HO_602006 := ke HO_602006 ho2 hb; replace HO_626006 := ke HO_626006 ho2 hb; replace HO679 := ke HO679 ho2 hb; have HO704 := Aside0.mk (Kd.R_lower (Kd.R_new' (Kd.R_new' (Kd.R_new' (Kd.R_new' (Kd.R_new' (Kd.R_new' (Kd.R_new' (Kd.R_new' (Kd.R_new' (Kd.R_new' (Kd.R_new' (Kd.R_new' (Kd.R_new' ho3 (rt HO_582004)) (rt HO_582007)) (rt HO_582008)) (rt HO_602004)) (rt HO_602007)) (rt HO_602008)) (rt HO_626004)) (rt HO_626007)) (rt HO_626008)) (rt HO675)) (rt HO682)) (rt HO685)) (rt HO688)) (below_size (bb HB))); have HO707 := Aside0.mk (Kd.R_lower (Kd.R_new' (Kd.R_new' (Kd.R_new' (Kd.R_new' (Kd.R_new' (Kd.R_new' (Kd.R_new' (Kd.R_new' (Kd.R_new' (Kd.R_new' (Kd.R_new' (Kd.R_new' (Kd.R_new' ho4 (rt HO_582004)) (rt HO_582007)) (rt HO_582008)) (rt HO_602004)) (rt HO_602007)) (rt HO_602008)) (rt HO_626004)) (rt HO_626007)) (rt HO_626008)) (rt HO675)) (rt HO682)) (rt HO685)) (rt HO688)) (below_size (bb HB))); replace HO_582004 := Aside0.mk (Kd.R_mono (Kd.R_told (Kd.R_told (Kd.R_told (Kd.R_old (rr HO_582004) hb) (Kd.R_base ho1)) (Kd.R_base ho3)) (Kd.R_base ho4)) (fun _ h_ => h_.1)); replace HO_582007 := Aside0.mk (Kd.R_mono (Kd.R_told (Kd.R_told (Kd.R_told (Kd.R_old (rr HO_582007) hb) (Kd.R_base ho1)) (Kd.R_base ho3)) (Kd.R_base ho4)) (fun _ h_ => h_.1)); replace HO_582008 := Aside0.mk (Kd.R_mono (Kd.R_told (Kd.R_told (Kd.R_told (Kd.R_old (rr HO_582008) hb) (Kd.R_base ho1)) (Kd.R_base ho3)) (Kd.R_base ho4)) (fun _ h_ => h_.1)); replace HO_602004 := Aside0.mk (Kd.R_mono (Kd.R_told (Kd.R_told (Kd.R_told (Kd.R_old (rr HO_602004) hb) (Kd.R_base ho1)) (Kd.R_base ho3)) (Kd.R_base ho4)) (fun _ h_ => h_.1)); replace HO_602007 := Aside0.mk (Kd.R_mono (Kd.R_told (Kd.R_told (Kd.R_told (Kd.R_old (rr HO_602007) hb) (Kd.R_base ho1)) (Kd.R_base ho3)) (Kd.R_base ho4)) (fun _ h_ => h_.1)); replace HO_602008 := Aside0.mk (Kd.R_mono (Kd.R_told (Kd.R_told (Kd.R_told (Kd.R_old (rr HO_602008) hb) (Kd.R_base ho1)) (Kd.R_base ho3)) (Kd.R_base ho4)) (fun _ h_ => h_.1)); replace HO_626004 := Aside0.mk (Kd.R_mono (Kd.R_told (Kd.R_told (Kd.R_told (Kd.R_old (rr HO_626004) hb) (Kd.R_base ho1)) (Kd.R_base ho3)) (Kd.R_base ho4)) (fun _ h_ => h_.1)); replace HO_626007 := Aside0.mk (Kd.R_mono (Kd.R_told (Kd.R_told (Kd.R_told (Kd.R_old (rr HO_626007) hb) (Kd.R_base ho1)) (Kd.R_base ho3)) (Kd.R_base ho4)) (fun _ h_ => h_.1)); replace HO_626008 := Aside0.mk (Kd.R_mono (Kd.R_told (Kd.R_told (Kd.R_told (Kd.R_old (rr HO_626008) hb) (Kd.R_base ho1)) (Kd.R_base ho3)) (Kd.R_base ho4)) (fun _ h_ => h_.1)); replace HO675 := Aside0.mk (Kd.R_mono (Kd.R_told (Kd.R_told (Kd.R_told (Kd.R_old (rr HO675) hb) (Kd.R_base ho1)) (Kd.R_base ho3)) (Kd.R_base ho4)) (fun _ h_ => h_.1)); replace HO682 := Aside0.mk (Kd.R_mono (Kd.R_told (Kd.R_told (Kd.R_told (Kd.R_old (rr HO682) hb) (Kd.R_base ho1)) (Kd.R_base ho3)) (Kd.R_base ho4)) (fun _ h_ => h_.1)); replace HO685 := Aside0.mk (Kd.R_mono (Kd.R_told (Kd.R_told (Kd.R_told (Kd.R_old (rr HO685) hb) (Kd.R_base ho1)) (Kd.R_base ho3)) (Kd.R_base ho4)) (fun _ h_ => h_.1)); replace HO688 := Aside0.mk (Kd.R_mono (Kd.R_told (Kd.R_told (Kd.R_told (Kd.R_old (rr HO688) hb) (Kd.R_base ho1)) (Kd.R_base ho3)) (Kd.R_base ho4)) (fun _ h_ => h_.1)); replace BK537 := kb BK537 hb; replace BK581 := kb BK581 hb; replace BK601 := kb BK601 hb; replace BK625 := kb BK625 hb; replace HB := hs_ HB hb; (try clear hb hb2 hk hi ho0 ho1 ho2 ho3 ho4)) | ((with_reducible refine gate_dst (N := 15) rfl ?_); refine bx (N := 15) (cs := #[.slice none 0 0, .int .i64 0, .int .i64 0, .int .i64 0, .slice none 0 0, .bool false, .slice none 0 0, .slice none 0 0, .slice none 0 0]) (t := 34) ?_; intro gb709 hg w156 hbox hb; replace HO_582000 := kr HO_582000 hb; replace HO_582004 := kr HO_582004 hb; replace HO_582006 := kr HO_582006 hb; replace HO_582007 := kr HO_582007 hb; replace HO_582008 := kr HO_582008 hb; replace HO_602000 := kr HO_602000 hb; replace HO_602004 := kr HO_602004 hb; replace HO_602006 := kr HO_602006 hb; replace HO_602007 := kr HO_602007 hb; replace HO_602008 := kr HO_602008 hb; replace HO_626000 := kr HO_626000 hb; replace HO_626004 := kr HO_626004 hb; replace HO_626006 := kr HO_626006 hb; replace HO_626007 := kr HO_626007 hb; replace HO_626008 := kr HO_626008 hb; replace HO669 := kr HO669 hb; replace HO675 := kr HO675 hb; replace HO679 := kr HO679 hb; replace HO682 := kr HO682 hb; replace HO685 := kr HO685 hb; replace HO688 := kr HO688 hb; replace HO691 := kr HO691 hb; replace HO697 := kr HO697 hb; replace HO701 := kr HO701 hb; replace HO704 := kr HO704 hb; replace HO707 := kr HO707 hb; have BK709 := Aside0.mk (hbox); have GW709 := gs hg HB; have GE709 := gs hg HB; replace HB := hs_ HB hb; have NB537_709 := gn hg BK537; have NB709_537 := gm hg BK537; replace BK537 := kb BK537 hb; have NB581_709 := gn hg BK581; have NB709_581 := gm hg BK581; replace BK581 := kb BK581 hb; have NB601_709 := gn hg BK601; have NB709_601 := gm hg BK601; replace BK601 := kb BK601 hb; have NB625_709 := gn hg BK625; have NB709_625 := gm hg BK625; replace BK625 := kb BK625 hb; clear hb hbox hg; obtain ⟨Ao157, co157, eo157⟩ := Kd.R_slice HO691.out; subst eo157; have hnb158 := NB709_537.out; have hnc158 := NB537_709.out; have hnb159 := NB709_581.out; have hnc159 := NB581_709.out; have hnb160 := NB709_601.out; have hnc160 := NB601_709.out; have hnb161 := NB709_625.out; have hnc161 := NB625_709.out; have ⟨hcz162_0, hcz162_1, hcz162_2, hcz162_3, hcz162_4, hcz162_5, hcz162_6, hcz162_7, hcz162_8, hfz162_0, hfz162_1, hfz162_2, hfz162_3, hfz162_4, hfz162_5, hfz162_6, hfz162_7, hfz162_8⟩ := rz9 BK709; obtain ⟨Ao163, co163, eo163⟩ := Kd.R_slice HO697.out; subst eo163; obtain ⟨Ao164, co164, eo164⟩ := Kd.R_slice HO701.out; subst eo164; obtain ⟨Ao165, co165, eo165⟩ := Kd.R_slice HO704.out; subst eo165; obtain ⟨Ao166, co166, eo166⟩ := Kd.R_slice HO707.out; subst eo166))
             (try simp only [Act.put, List.setIfInBounds_toArray, List.set_cons_zero, List.set_cons_succ])
             go_cut [108] (fun v108 wc => ∃ (kq : Nat) (x108_141 : Bool), v108 = .bool x108_141 ∧ Aside0 (laws_FnExactWithOutcome.j2 kq t660 x108_141 t661 t608 t609 t610 t662 t614 t663 t664 t665 = some r) ∧ Aside0 (kq ≤ kj99) ∧ Aside0 (Kd.R k87 87 wc w.heap.size (fun k_ => nb k_ Ao39 t652.length co39 ∧ nb k_ Ao52 t605.length co52 ∧ nb k_ Ao157 t689.length co157) (.slice Ao29 t561.length co29) t561) ∧ Aside0 (Kd.R (Kd.int .i64) 3 wc w.heap.size (fun k_ => nb k_ Ao34 t574.length co34 ∧ nb k_ Ao35 t577.length co35 ∧ nb k_ Ao43 t653.length co43 ∧ nb k_ Ao45 t655.length co45 ∧ nb k_ Ao46 t656.length co46 ∧ nb k_ Ao57 t611.length co57 ∧ nb k_ Ao59 t618.length co59 ∧ nb k_ Ao60 t621.length co60 ∧ nb k_ Ao163 t695.length co163 ∧ nb k_ Ao165 t702.length co165 ∧ nb k_ Ao166 t705.length co166) (.slice Ao32 t567.length co32) t567) ∧ Aside0 (Kd.R k75 75 wc w.heap.size (fun k_ => nb k_ Ao44 t654.length co44 ∧ nb k_ Ao58 t615.length co58 ∧ nb k_ Ao164 t699.length co164) (.slice Ao33 t571.length co33) t571) ∧ Aside0 (Kd.R (Kd.int .i64) 3 wc w.heap.size (fun k_ => nb k_ Ao32 t567.length co32 ∧ nb k_ Ao35 t577.length co35 ∧ nb k_ Ao43 t653.length co43 ∧ nb k_ Ao45 t655.length co45 ∧ nb k_ Ao46 t656.length co46 ∧ nb k_ Ao57 t611.length co57 ∧ nb k_ Ao59 t618.length co59 ∧ nb k_ Ao60 t621.length co60 ∧ nb k_ Ao163 t695.length co163 ∧ nb k_ Ao165 t702.length co165 ∧ nb k_ Ao166 t705.length co166) (.slice Ao34 t574.length co34) t574) ∧ Aside0 (Kd.R (Kd.int .i64) 3 wc w.heap.size (fun k_ => nb k_ Ao32 t567.length co32 ∧ nb k_ Ao34 t574.length co34 ∧ nb k_ Ao43 t653.length co43 ∧ nb k_ Ao45 t655.length co45 ∧ nb k_ Ao46 t656.length co46 ∧ nb k_ Ao57 t611.length co57 ∧ nb k_ Ao59 t618.length co59 ∧ nb k_ Ao60 t621.length co60 ∧ nb k_ Ao163 t695.length co163 ∧ nb k_ Ao165 t702.length co165 ∧ nb k_ Ao166 t705.length co166) (.slice Ao35 t577.length co35) t577) ∧ Aside0 (Kd.R k87 87 wc w.heap.size (fun k_ => nb k_ Ao29 t561.length co29 ∧ nb k_ Ao52 t605.length co52 ∧ nb k_ Ao157 t689.length co157) (.slice Ao39 t652.length co39) t652) ∧ Aside0 (Kd.R (Kd.int .i64) 3 wc w.heap.size (fun k_ => nb k_ Ao32 t567.length co32 ∧ nb k_ Ao34 t574.length co34 ∧ nb k_ Ao35 t577.length co35 ∧ nb k_ Ao45 t655.length co45 ∧ nb k_ Ao46 t656.length co46 ∧ nb k_ Ao57 t611.length co57 ∧ nb k_ Ao59 t618.length co59 ∧ nb k_ Ao60 t621.length co60 ∧ nb k_ Ao163 t695.length co163 ∧ nb k_ Ao165 t702.length co165 ∧ nb k_ Ao166 t705.length co166) (.slice Ao43 t653.length co43) t653) ∧ Aside0 (Kd.R k75 75 wc w.heap.size (fun k_ => nb k_ Ao33 t571.length co33 ∧ nb k_ Ao58 t615.length co58 ∧ nb k_ Ao164 t699.length co164) (.slice Ao44 t654.length co44) t654) ∧ Aside0 (Kd.R (Kd.int .i64) 3 wc w.heap.size (fun k_ => nb k_ Ao32 t567.length co32 ∧ nb k_ Ao34 t574.length co34 ∧ nb k_ Ao35 t577.length co35 ∧ nb k_ Ao43 t653.length co43 ∧ nb k_ Ao46 t656.length co46 ∧ nb k_ Ao57 t611.length co57 ∧ nb k_ Ao59 t618.length co59 ∧ nb k_ Ao60 t621.length co60 ∧ nb k_ Ao163 t695.length co163 ∧ nb k_ Ao165 t702.length co165 ∧ nb k_ Ao166 t705.length co166) (.slice Ao45 t655.length co45) t655) ∧ Aside0 (Kd.R (Kd.int .i64) 3 wc w.heap.size (fun k_ => nb k_ Ao32 t567.length co32 ∧ nb k_ Ao34 t574.length co34 ∧ nb k_ Ao35 t577.length co35 ∧ nb k_ Ao43 t653.length co43 ∧ nb k_ Ao45 t655.length co45 ∧ nb k_ Ao57 t611.length co57 ∧ nb k_ Ao59 t618.length co59 ∧ nb k_ Ao60 t621.length co60 ∧ nb k_ Ao163 t695.length co163 ∧ nb k_ Ao165 t702.length co165 ∧ nb k_ Ao166 t705.length co166) (.slice Ao46 t656.length co46) t656) ∧ Aside0 (Kd.R k87 87 wc w.heap.size (fun k_ => nb k_ Ao29 t561.length co29 ∧ nb k_ Ao39 t652.length co39 ∧ nb k_ Ao157 t689.length co157) (.slice Ao52 t605.length co52) t661) ∧ Aside0 (Kd.R (Kd.int .i64) 3 wc w.heap.size (fun k_ => nb k_ Ao32 t567.length co32 ∧ nb k_ Ao34 t574.length co34 ∧ nb k_ Ao35 t577.length co35 ∧ nb k_ Ao43 t653.length co43 ∧ nb k_ Ao45 t655.length co45 ∧ nb k_ Ao46 t656.length co46 ∧ nb k_ Ao59 t618.length co59 ∧ nb k_ Ao60 t621.length co60 ∧ nb k_ Ao163 t695.length co163 ∧ nb k_ Ao165 t702.length co165 ∧ nb k_ Ao166 t705.length co166) (.slice Ao57 t611.length co57) t662) ∧ Aside0 (Kd.R k75 75 wc w.heap.size (fun k_ => nb k_ Ao33 t571.length co33 ∧ nb k_ Ao44 t654.length co44 ∧ nb k_ Ao164 t699.length co164) (.slice Ao58 t615.length co58) t663) ∧ Aside0 (Kd.R (Kd.int .i64) 3 wc w.heap.size (fun k_ => nb k_ Ao32 t567.length co32 ∧ nb k_ Ao34 t574.length co34 ∧ nb k_ Ao35 t577.length co35 ∧ nb k_ Ao43 t653.length co43 ∧ nb k_ Ao45 t655.length co45 ∧ nb k_ Ao46 t656.length co46 ∧ nb k_ Ao57 t611.length co57 ∧ nb k_ Ao60 t621.length co60 ∧ nb k_ Ao163 t695.length co163 ∧ nb k_ Ao165 t702.length co165 ∧ nb k_ Ao166 t705.length co166) (.slice Ao59 t618.length co59) t664) ∧ Aside0 (Kd.R (Kd.int .i64) 3 wc w.heap.size (fun k_ => nb k_ Ao32 t567.length co32 ∧ nb k_ Ao34 t574.length co34 ∧ nb k_ Ao35 t577.length co35 ∧ nb k_ Ao43 t653.length co43 ∧ nb k_ Ao45 t655.length co45 ∧ nb k_ Ao46 t656.length co46 ∧ nb k_ Ao57 t611.length co57 ∧ nb k_ Ao59 t618.length co59 ∧ nb k_ Ao163 t695.length co163 ∧ nb k_ Ao165 t702.length co165 ∧ nb k_ Ao166 t705.length co166) (.slice Ao60 t621.length co60) t665) ∧ Aside0 (Kd.R k87 87 wc w.heap.size (fun k_ => nb k_ Ao29 t561.length co29 ∧ nb k_ Ao39 t652.length co39 ∧ nb k_ Ao52 t605.length co52) (.slice Ao157 t689.length co157) t689) ∧ Aside0 (Kd.R (Kd.int .i64) 3 wc w.heap.size (fun k_ => nb k_ Ao32 t567.length co32 ∧ nb k_ Ao34 t574.length co34 ∧ nb k_ Ao35 t577.length co35 ∧ nb k_ Ao43 t653.length co43 ∧ nb k_ Ao45 t655.length co45 ∧ nb k_ Ao46 t656.length co46 ∧ nb k_ Ao57 t611.length co57 ∧ nb k_ Ao59 t618.length co59 ∧ nb k_ Ao60 t621.length co60 ∧ nb k_ Ao165 t702.length co165 ∧ nb k_ Ao166 t705.length co166) (.slice Ao163 t695.length co163) t695) ∧ Aside0 (Kd.R k75 75 wc w.heap.size (fun k_ => nb k_ Ao33 t571.length co33 ∧ nb k_ Ao44 t654.length co44 ∧ nb k_ Ao58 t615.length co58) (.slice Ao164 t699.length co164) t699) ∧ Aside0 (Kd.R (Kd.int .i64) 3 wc w.heap.size (fun k_ => nb k_ Ao32 t567.length co32 ∧ nb k_ Ao34 t574.length co34 ∧ nb k_ Ao35 t577.length co35 ∧ nb k_ Ao43 t653.length co43 ∧ nb k_ Ao45 t655.length co45 ∧ nb k_ Ao46 t656.length co46 ∧ nb k_ Ao57 t611.length co57 ∧ nb k_ Ao59 t618.length co59 ∧ nb k_ Ao60 t621.length co60 ∧ nb k_ Ao163 t695.length co163 ∧ nb k_ Ao166 t705.length co166) (.slice Ao165 t702.length co165) t702) ∧ Aside0 (Kd.R (Kd.int .i64) 3 wc w.heap.size (fun k_ => nb k_ Ao32 t567.length co32 ∧ nb k_ Ao34 t574.length co34 ∧ nb k_ Ao35 t577.length co35 ∧ nb k_ Ao43 t653.length co43 ∧ nb k_ Ao45 t655.length co45 ∧ nb k_ Ao46 t656.length co46 ∧ nb k_ Ao57 t611.length co57 ∧ nb k_ Ao59 t618.length co59 ∧ nb k_ Ao60 t621.length co60 ∧ nb k_ Ao163 t695.length co163 ∧ nb k_ Ao165 t702.length co165) (.slice Ao166 t705.length co166) t705) ∧ Aside0 (wc.heap[gb537]? = some (.cells #[(.slice A0_0 l0_0.length c0_0), .int .i64 a0_1, .int .i64 a0_2, .int .i64 a0_3, (.slice A0_4 l0_4.length c0_4), .bool a0_5, (.slice A0_6 l0_6.length c0_6), (.slice A0_7 l0_7.length c0_7), (.slice A0_8 l0_8.length c0_8)] 28 (0, 0))) ∧ Aside0 (wc.heap[gb581]? = some (.cells #[(.slice Ao29 t561.length co29), .int .i64 t564, .int .i64 t565, .int .i64 t566, (.slice Ao32 t567.length co32), .bool t570, (.slice Ao33 t571.length co33), (.slice Ao34 t574.length co34), (.slice Ao35 t577.length co35)] 34 (0, 0))) ∧ Aside0 (wc.heap[gb601]? = some (.cells #[(.slice Ao39 t652.length co39), .int .i64 t585, .int .i64 t586, .int .i64 t587, (.slice Ao43 t653.length co43), .bool t591, (.slice Ao44 t654.length co44), (.slice Ao45 t655.length co45), (.slice Ao46 t656.length co46)] 34 (0, 0))) ∧ Aside0 (wc.heap[gb625]? = some (.cells #[(.slice Ao52 t605.length co52), .int .i64 t608, .int .i64 t609, .int .i64 t610, (.slice Ao57 t611.length co57), .bool t614, (.slice Ao58 t615.length co58), (.slice Ao59 t618.length co59), (.slice Ao60 t621.length co60)] 34 (0, 0))) ∧ Aside0 (wc.heap[gb709]? = some (.cells #[(.slice Ao157 t689.length co157), .int .i64 t692, .int .i64 t693, .int .i64 t694, (.slice Ao163 t695.length co163), .bool t698, (.slice Ao164 t699.length co164), (.slice Ao165 t702.length co165), (.slice Ao166 t705.length co166)] 34 (0, 0))) ∧ Aside0 (Below w.heap.size w wc))
             case first =>
              have H := HC142.out
              clear HC142
              replace H := Option.bind_eq_some_iff.mp H
              obtain ⟨t710, A1670, H⟩ := H
              try dsimp only at H
              have A167 := Aside0.mk A1670
              clear A1670
              by_cases c168 : t710 = true
              ·subst c168
               rw [if_pos rfl] at H
               have H' := Aside0.mk H
               clear H
               have hnb169 := NB709_537.out
               have hnc169 := NB537_709.out
               have hnb170 := NB709_581.out
               have hnc170 := NB581_709.out
               have hnb171 := NB709_601.out
               have hnc171 := NB601_709.out
               have hnb172 := NB709_625.out
               have hnc172 := NB625_709.out
               have ⟨hcz173_0, hcz173_1, hcz173_2, hcz173_3, hcz173_4, hcz173_5, hcz173_6, hcz173_7, hcz173_8, hfz173_0, hfz173_1, hfz173_2, hfz173_3, hfz173_4, hfz173_5, hfz173_6, hfz173_7, hfz173_8⟩ := rz9 BK709
               have hnb174 := NB581_537.out
               have hnc174 := NB537_581.out
               have hnb175 := NB581_601.out
               have hnc175 := NB601_581.out
               have hnb176 := NB581_625.out
               have hnc176 := NB625_581.out
               have ⟨hcz177_0, hcz177_1, hcz177_2, hcz177_3, hcz177_4, hcz177_5, hcz177_6, hcz177_7, hcz177_8, hfz177_0, hfz177_1, hfz177_2, hfz177_3, hfz177_4, hfz177_5, hfz177_6, hfz177_7, hfz177_8⟩ := rz9 BK581
               go_wp2_with (first | ((with_reducible refine gate_callee (f := 11) rfl ?_); refine gl (some 102) Try.func11 #[.agg #[.slice Ao157 t689.length co157, .int .i64 t692, .int .i64 t693, .int .i64 t694, .slice Ao163 t695.length co163, .bool t698, .slice Ao164 t699.length co164, .slice Ao165 t702.length co165, .slice Ao166 t705.length co166], .agg #[.slice Ao29 t561.length co29, .int .i64 t564, .int .i64 t565, .int .i64 t566, .slice Ao32 t567.length co32, .bool t570, .slice Ao33 t571.length co33, .slice Ao34 t574.length co34, .slice Ao35 t577.length co35]] ?_; (with_reducible refine (laws_eqBook.calls kj99 _ _ t689 t692 t693 t694 _ _ t695 t698 _ _ t699 _ _ t702 _ _ t705 _ _ t561 t564 t565 t566 _ _ t567 t570 _ _ t571 _ _ t574 _ _ t577 true _ ?side1 ?side2 ?side3 ?side4 ?side5 ?side6 ?side7 ?side8 ?side9 ?side10 ?side11 ?side12 ?side13 ?side14 ?side15 ?side16 ?side17 ?side18 ?side19 ?side20 A167.out).mono ?_); (case side1 => exact cf HO691 BK709); (case side2 => exact cl HO691); (case side3 => exact cf HO697 BK709); (case side4 => exact cl HO697); (case side5 => exact cf HO701 BK709); (case side6 => exact cl HO701); (case side7 => exact cf HO704 BK709); (case side8 => exact cl HO704); (case side9 => exact cf HO707 BK709); (case side10 => exact cl HO707); (case side11 => exact cf HO_582000 BK709); (case side12 => exact cl HO_582000); (case side13 => exact cf HO_582004 BK709); (case side14 => exact cl HO_582004); (case side15 => exact cf HO_582006 BK709); (case side16 => exact cl HO_582006); (case side17 => exact cf HO_582007 BK709); (case side18 => exact cl HO_582007); (case side19 => exact cf HO_582008 BK709); (case side20 => exact cl HO_582008); rintro e w178 ⟨rfl, hb⟩; refine ⟨_, rfl, ?_⟩; replace HO_582000 := kf HO_582000 BK709 hb; replace HO_582004 := kf HO_582004 BK709 hb; replace HO_582006 := kf HO_582006 BK709 hb; replace HO_582007 := kf HO_582007 BK709 hb; replace HO_582008 := kf HO_582008 BK709 hb; replace HO_602000 := kf HO_602000 BK709 hb; replace HO_602004 := kf HO_602004 BK709 hb; replace HO_602006 := kf HO_602006 BK709 hb; replace HO_602007 := kf HO_602007 BK709 hb; replace HO_602008 := kf HO_602008 BK709 hb; replace HO_626000 := kf HO_626000 BK709 hb; replace HO_626004 := kf HO_626004 BK709 hb; replace HO_626006 := kf HO_626006 BK709 hb; replace HO_626007 := kf HO_626007 BK709 hb; replace HO_626008 := kf HO_626008 BK709 hb; replace HO669 := kf HO669 BK709 hb; replace HO675 := kf HO675 BK709 hb; replace HO679 := kf HO679 BK709 hb; replace HO682 := kf HO682 BK709 hb; replace HO685 := kf HO685 BK709 hb; replace HO688 := kf HO688 BK709 hb; replace HO691 := kf HO691 BK709 hb; replace HO697 := kf HO697 BK709 hb; replace HO701 := kf HO701 BK709 hb; replace HO704 := kf HO704 BK709 hb; replace HO707 := kf HO707 BK709 hb; replace BK537 := Aside0.mk (blk_below (g := gb537) (o := .cells #[.slice A0_0 l0_0.length c0_0, .int .i64 a0_1, .int .i64 a0_2, .int .i64 a0_3, .slice A0_4 l0_4.length c0_4, .bool a0_5, .slice A0_6 l0_6.length c0_6, .slice A0_7 l0_7.length c0_7, .slice A0_8 l0_8.length c0_8] 28 (0, 0)) (by (with_reducible repeat (first | refine blk_drewN ?_ _ | refine blk_drew ?_ | refine blk_alloc ?_ _)); refine blk_far ?_ NB537_709.out _; (with_reducible repeat (first | refine blk_drewN ?_ _ | refine blk_drew ?_ | refine blk_alloc ?_ _)); refine blk_far ?_ NB537_709.out _; (with_reducible repeat (first | refine blk_drewN ?_ _ | refine blk_drew ?_ | refine blk_alloc ?_ _)); refine blk_far ?_ NB537_709.out _; (with_reducible repeat (first | refine blk_drewN ?_ _ | refine blk_drew ?_ | refine blk_alloc ?_ _)); refine blk_far ?_ NB537_709.out _; (with_reducible repeat (first | refine blk_drewN ?_ _ | refine blk_drew ?_ | refine blk_alloc ?_ _)); refine blk_far ?_ NB537_709.out _; (with_reducible repeat (first | refine blk_drewN ?_ _ | refine blk_drew ?_ | refine blk_alloc ?_ _)); refine blk_far ?_ NB537_709.out _; (with_reducible repeat (first | refine blk_drewN ?_ _ | refine blk_drew ?_ | refine blk_alloc ?_ _)); refine blk_far ?_ NB537_709.out _; (with_reducible repeat (first | refine blk_drewN ?_ _ | refine blk_drew ?_ | refine blk_alloc ?_ _)); refine blk_far ?_ NB537_709.out _; (with_reducible repeat (first | refine blk_drewN ?_ _ | refine blk_drew ?_ | refine blk_alloc ?_ _)); refine blk_far ?_ NB537_709.out _; (with_reducible repeat (first | refine blk_drewN ?_ _ | refine blk_drew ?_ | refine blk_alloc ?_ _)); exact BK537.out) hb); replace BK581 := Aside0.mk (blk_below (g := gb581) (o := .cells #[.slice Ao29 t561.length co29, .int .i64 t564, .int .i64 t565, .int .i64 t566, .slice Ao32 t567.length co32, .bool t570, .slice Ao33 t571.length co33, .slice Ao34 t574.length co34, .slice Ao35 t577.length co35] 34 (0, 0)) (by (with_reducible repeat (first | refine blk_drewN ?_ _ | refine blk_drew ?_ | refine blk_alloc ?_ _)); refine blk_far ?_ NB581_709.out _; (with_reducible repeat (first | refine blk_drewN ?_ _ | refine blk_drew ?_ | refine blk_alloc ?_ _)); refine blk_far ?_ NB581_709.out _; (with_reducible repeat (first | refine blk_drewN ?_ _ | refine blk_drew ?_ | refine blk_alloc ?_ _)); refine blk_far ?_ NB581_709.out _; (with_reducible repeat (first | refine blk_drewN ?_ _ | refine blk_drew ?_ | refine blk_alloc ?_ _)); refine blk_far ?_ NB581_709.out _; (with_reducible repeat (first | refine blk_drewN ?_ _ | refine blk_drew ?_ | refine blk_alloc ?_ _)); refine blk_far ?_ NB581_709.out _; (with_reducible repeat (first | refine blk_drewN ?_ _ | refine blk_drew ?_ | refine blk_alloc ?_ _)); refine blk_far ?_ NB581_709.out _; (with_reducible repeat (first | refine blk_drewN ?_ _ | refine blk_drew ?_ | refine blk_alloc ?_ _)); refine blk_far ?_ NB581_709.out _; (with_reducible repeat (first | refine blk_drewN ?_ _ | refine blk_drew ?_ | refine blk_alloc ?_ _)); refine blk_far ?_ NB581_709.out _; (with_reducible repeat (first | refine blk_drewN ?_ _ | refine blk_drew ?_ | refine blk_alloc ?_ _)); refine blk_far ?_ NB581_709.out _; (with_reducible repeat (first | refine blk_drewN ?_ _ | refine blk_drew ?_ | refine blk_alloc ?_ _)); exact BK581.out) hb); replace BK601 := Aside0.mk (blk_below (g := gb601) (o := .cells #[.slice Ao39 t652.length co39, .int .i64 t585, .int .i64 t586, .int .i64 t587, .slice Ao43 t653.length co43, .bool t591, .slice Ao44 t654.length co44, .slice Ao45 t655.length co45, .slice Ao46 t656.length co46] 34 (0, 0)) (by (with_reducible repeat (first | refine blk_drewN ?_ _ | refine blk_drew ?_ | refine blk_alloc ?_ _)); refine blk_far ?_ NB601_709.out _; (with_reducible repeat (first | refine blk_drewN ?_ _ | refine blk_drew ?_ | refine blk_alloc ?_ _)); refine blk_far ?_ NB601_709.out _; (with_reducible repeat (first | refine blk_drewN ?_ _ | refine blk_drew ?_ | refine blk_alloc ?_ _)); refine blk_far ?_ NB601_709.out _; (with_reducible repeat (first | refine blk_drewN ?_ _ | refine blk_drew ?_ | refine blk_alloc ?_ _)); refine blk_far ?_ NB601_709.out _; (with_reducible repeat (first | refine blk_drewN ?_ _ | refine blk_drew ?_ | refine blk_alloc ?_ _)); refine blk_far ?_ NB601_709.out _; (with_reducible repeat (first | refine blk_drewN ?_ _ | refine blk_drew ?_ | refine blk_alloc ?_ _)); refine blk_far ?_ NB601_709.out _; (with_reducible repeat (first | refine blk_drewN ?_ _ | refine blk_drew ?_ | refine blk_alloc ?_ _)); refine blk_far ?_ NB601_709.out _; (with_reducible repeat (first | refine blk_drewN ?_ _ | refine blk_drew ?_ | refine blk_alloc ?_ _)); refine blk_far ?_ NB601_709.out _; (with_reducible repeat (first | refine blk_drewN ?_ _ | refine blk_drew ?_ | refine blk_alloc ?_ _)); refine blk_far ?_ NB601_709.out _; (with_reducible repeat (first | refine blk_drewN ?_ _ | refine blk_drew ?_ | refine blk_alloc ?_ _)); exact BK601.out) hb); replace BK625 := Aside0.mk (blk_below (g := gb625) (o := .cells #[.slice Ao52 t605.length co52, .int .i64 t608, .int .i64 t609, .int .i64 t610, .slice Ao57 t611.length co57, .bool t614, .slice Ao58 t615.length co58, .slice Ao59 t618.length co59, .slice Ao60 t621.length co60] 34 (0, 0)) (by (with_reducible repeat (first | refine blk_drewN ?_ _ | refine blk_drew ?_ | refine blk_alloc ?_ _)); refine blk_far ?_ NB625_709.out _; (with_reducible repeat (first | refine blk_drewN ?_ _ | refine blk_drew ?_ | refine blk_alloc ?_ _)); refine blk_far ?_ NB625_709.out _; (with_reducible repeat (first | refine blk_drewN ?_ _ | refine blk_drew ?_ | refine blk_alloc ?_ _)); refine blk_far ?_ NB625_709.out _; (with_reducible repeat (first | refine blk_drewN ?_ _ | refine blk_drew ?_ | refine blk_alloc ?_ _)); refine blk_far ?_ NB625_709.out _; (with_reducible repeat (first | refine blk_drewN ?_ _ | refine blk_drew ?_ | refine blk_alloc ?_ _)); refine blk_far ?_ NB625_709.out _; (with_reducible repeat (first | refine blk_drewN ?_ _ | refine blk_drew ?_ | refine blk_alloc ?_ _)); refine blk_far ?_ NB625_709.out _; (with_reducible repeat (first | refine blk_drewN ?_ _ | refine blk_drew ?_ | refine blk_alloc ?_ _)); refine blk_far ?_ NB625_709.out _; (with_reducible repeat (first | refine blk_drewN ?_ _ | refine blk_drew ?_ | refine blk_alloc ?_ _)); refine blk_far ?_ NB625_709.out _; (with_reducible repeat (first | refine blk_drewN ?_ _ | refine blk_drew ?_ | refine blk_alloc ?_ _)); refine blk_far ?_ NB625_709.out _; (with_reducible repeat (first | refine blk_drewN ?_ _ | refine blk_drew ?_ | refine blk_alloc ?_ _)); exact BK625.out) hb); replace BK709 := Aside0.mk (blk_below (g := gb709) (o := .cells #[.slice Ao157 t689.length co157, .int .i64 t692, .int .i64 t693, .int .i64 t694, .slice Ao163 t695.length co163, .bool t698, .slice Ao164 t699.length co164, .slice Ao165 t702.length co165, .slice Ao166 t705.length co166] 34 (0, 0)) (by (with_reducible repeat (first | refine blk_drewN ?_ _ | refine blk_drew ?_ | refine blk_alloc ?_ _)); refine blk_put (cs := #[.slice Ao157 t689.length co157, .int .i64 t692, .int .i64 t693, .int .i64 t694, .slice Ao163 t695.length co163, .bool t698, .slice Ao164 t699.length co164, .slice Ao165 t702.length co165, .slice none 0 0]) ?_ 8 _ rfl; (with_reducible repeat (first | refine blk_drewN ?_ _ | refine blk_drew ?_ | refine blk_alloc ?_ _)); refine blk_put (cs := #[.slice Ao157 t689.length co157, .int .i64 t692, .int .i64 t693, .int .i64 t694, .slice Ao163 t695.length co163, .bool t698, .slice Ao164 t699.length co164, .slice none 0 0, .slice none 0 0]) ?_ 7 _ rfl; (with_reducible repeat (first | refine blk_drewN ?_ _ | refine blk_drew ?_ | refine blk_alloc ?_ _)); refine blk_put (cs := #[.slice Ao157 t689.length co157, .int .i64 t692, .int .i64 t693, .int .i64 t694, .slice Ao163 t695.length co163, .bool t698, .slice none 0 0, .slice none 0 0, .slice none 0 0]) ?_ 6 _ rfl; (with_reducible repeat (first | refine blk_drewN ?_ _ | refine blk_drew ?_ | refine blk_alloc ?_ _)); refine blk_put (cs := #[.slice Ao157 t689.length co157, .int .i64 t692, .int .i64 t693, .int .i64 t694, .slice Ao163 t695.length co163, .bool false, .slice none 0 0, .slice none 0 0, .slice none 0 0]) ?_ 5 _ rfl; (with_reducible repeat (first | refine blk_drewN ?_ _ | refine blk_drew ?_ | refine blk_alloc ?_ _)); refine blk_put (cs := #[.slice Ao157 t689.length co157, .int .i64 t692, .int .i64 t693, .int .i64 t694, .slice none 0 0, .bool false, .slice none 0 0, .slice none 0 0, .slice none 0 0]) ?_ 4 _ rfl; (with_reducible repeat (first | refine blk_drewN ?_ _ | refine blk_drew ?_ | refine blk_alloc ?_ _)); refine blk_put (cs := #[.slice Ao157 t689.length co157, .int .i64 t692, .int .i64 t693, .int .i64 0, .slice none 0 0, .bool false, .slice none 0 0, .slice none 0 0, .slice none 0 0]) ?_ 3 _ rfl; (with_reducible repeat (first | refine blk_drewN ?_ _ | refine blk_drew ?_ | refine blk_alloc ?_ _)); refine blk_put (cs := #[.slice Ao157 t689.length co157, .int .i64 t692, .int .i64 0, .int .i64 0, .slice none 0 0, .bool false, .slice none 0 0, .slice none 0 0, .slice none 0 0]) ?_ 2 _ rfl; (with_reducible repeat (first | refine blk_drewN ?_ _ | refine blk_drew ?_ | refine blk_alloc ?_ _)); refine blk_put (cs := #[.slice Ao157 t689.length co157, .int .i64 0, .int .i64 0, .int .i64 0, .slice none 0 0, .bool false, .slice none 0 0, .slice none 0 0, .slice none 0 0]) ?_ 1 _ rfl; (with_reducible repeat (first | refine blk_drewN ?_ _ | refine blk_drew ?_ | refine blk_alloc ?_ _)); refine blk_put (cs := #[.slice none 0 0, .int .i64 0, .int .i64 0, .int .i64 0, .slice none 0 0, .bool false, .slice none 0 0, .slice none 0 0, .slice none 0 0]) ?_ 0 _ rfl; (with_reducible repeat (first | refine blk_drewN ?_ _ | refine blk_drew ?_ | refine blk_alloc ?_ _)); exact BK709.out) hb); replace HB := hs_ HB hb; (try clear hb hb2 hk hi)))
               go_meet
               case rel => exact ⟨_, ((t708 != t580)), e2_, H', ⟨by have := HJ16.out; have := HJ99.out; first | omega | exact Nat.le_refl _⟩, ⟨by (try simp only [hl602000_99, hl602004_99, hl602006_99, hl602007_99, hl602008_99]); exact rp HO_582000⟩, ⟨by (try simp only [hl602000_99, hl602004_99, hl602006_99, hl602007_99, hl602008_99]); exact rp HO_582004⟩, ⟨by (try simp only [hl602000_99, hl602004_99, hl602006_99, hl602007_99, hl602008_99]); exact rp HO_582006⟩, ⟨by (try simp only [hl602000_99, hl602004_99, hl602006_99, hl602007_99, hl602008_99]); exact rp HO_582007⟩, ⟨by (try simp only [hl602000_99, hl602004_99, hl602006_99, hl602007_99, hl602008_99]); exact rp HO_582008⟩, ⟨by (try simp only [hl602000_99, hl602004_99, hl602006_99, hl602007_99, hl602008_99]); exact rp HO_602000⟩, ⟨by (try simp only [hl602000_99, hl602004_99, hl602006_99, hl602007_99, hl602008_99]); exact rp HO_602004⟩, ⟨by (try simp only [hl602000_99, hl602004_99, hl602006_99, hl602007_99, hl602008_99]); exact rp HO_602006⟩, ⟨by (try simp only [hl602000_99, hl602004_99, hl602006_99, hl602007_99, hl602008_99]); exact rp HO_602007⟩, ⟨by (try simp only [hl602000_99, hl602004_99, hl602006_99, hl602007_99, hl602008_99]); exact rp HO_602008⟩, ⟨by (try simp only [hl602000_99, hl602004_99, hl602006_99, hl602007_99, hl602008_99]); exact rp HO_626000⟩, ⟨by (try simp only [hl602000_99, hl602004_99, hl602006_99, hl602007_99, hl602008_99]); exact rp HO_626004⟩, ⟨by (try simp only [hl602000_99, hl602004_99, hl602006_99, hl602007_99, hl602008_99]); exact rp HO_626006⟩, ⟨by (try simp only [hl602000_99, hl602004_99, hl602006_99, hl602007_99, hl602008_99]); exact rp HO_626007⟩, ⟨by (try simp only [hl602000_99, hl602004_99, hl602006_99, hl602007_99, hl602008_99]); exact rp HO_626008⟩, ⟨by (try simp only [hl602000_99, hl602004_99, hl602006_99, hl602007_99, hl602008_99]); exact rp HO691⟩, ⟨by (try simp only [hl602000_99, hl602004_99, hl602006_99, hl602007_99, hl602008_99]); exact rp HO697⟩, ⟨by (try simp only [hl602000_99, hl602004_99, hl602006_99, hl602007_99, hl602008_99]); exact rp HO701⟩, ⟨by (try simp only [hl602000_99, hl602004_99, hl602006_99, hl602007_99, hl602008_99]); exact rp HO704⟩, ⟨by (try simp only [hl602000_99, hl602004_99, hl602006_99, hl602007_99, hl602008_99]); exact rp HO707⟩, ⟨by (try simp only [hl602000_99]); (try simp only [hl602004_99]); (try simp only [hl602006_99]); (try simp only [hl602007_99]); (try simp only [hl602008_99]); (with_reducible repeat (first | refine blk_drewN ?_ _ | refine blk_drew ?_ | refine blk_alloc ?_ _)); exact BK537.out⟩, ⟨by (try simp only [hl602000_99]); (try simp only [hl602004_99]); (try simp only [hl602006_99]); (try simp only [hl602007_99]); (try simp only [hl602008_99]); (with_reducible repeat (first | refine blk_drewN ?_ _ | refine blk_drew ?_ | refine blk_alloc ?_ _)); exact BK581.out⟩, ⟨by (try simp only [hl602000_99]); (try simp only [hl602004_99]); (try simp only [hl602006_99]); (try simp only [hl602007_99]); (try simp only [hl602008_99]); (with_reducible repeat (first | refine blk_drewN ?_ _ | refine blk_drew ?_ | refine blk_alloc ?_ _)); exact BK601.out⟩, ⟨by (try simp only [hl602000_99]); (try simp only [hl602004_99]); (try simp only [hl602006_99]); (try simp only [hl602007_99]); (try simp only [hl602008_99]); (with_reducible repeat (first | refine blk_drewN ?_ _ | refine blk_drew ?_ | refine blk_alloc ?_ _)); exact BK625.out⟩, ⟨by (try simp only [hl602000_99]); (try simp only [hl602004_99]); (try simp only [hl602006_99]); (try simp only [hl602007_99]); (try simp only [hl602008_99]); (with_reducible repeat (first | refine blk_drewN ?_ _ | refine blk_drew ?_ | refine blk_alloc ?_ _)); exact BK709.out⟩, ⟨bb HB⟩⟩
              ·replace c168 := Bool.eq_false_iff.mpr c168
               subst c168
               rw [if_neg (show ¬ (false = true) by decide)] at H
               have H' := Aside0.mk H
               clear H
               have hnb179 := NB709_537.out
               have hnc179 := NB537_709.out
               have hnb180 := NB709_581.out
               have hnc180 := NB581_709.out
               have hnb181 := NB709_601.out
               have hnc181 := NB601_709.out
               have hnb182 := NB709_625.out
               have hnc182 := NB625_709.out
               have ⟨hcz183_0, hcz183_1, hcz183_2, hcz183_3, hcz183_4, hcz183_5, hcz183_6, hcz183_7, hcz183_8, hfz183_0, hfz183_1, hfz183_2, hfz183_3, hfz183_4, hfz183_5, hfz183_6, hfz183_7, hfz183_8⟩ := rz9 BK709
               have hnb184 := NB581_537.out
               have hnc184 := NB537_581.out
               have hnb185 := NB581_601.out
               have hnc185 := NB601_581.out
               have hnb186 := NB581_625.out
               have hnc186 := NB625_581.out
               have ⟨hcz187_0, hcz187_1, hcz187_2, hcz187_3, hcz187_4, hcz187_5, hcz187_6, hcz187_7, hcz187_8, hfz187_0, hfz187_1, hfz187_2, hfz187_3, hfz187_4, hfz187_5, hfz187_6, hfz187_7, hfz187_8⟩ := rz9 BK581
               go_wp2_with (first | ((with_reducible refine gate_callee (f := 11) rfl ?_); refine gl (some 102) Try.func11 #[.agg #[.slice Ao157 t689.length co157, .int .i64 t692, .int .i64 t693, .int .i64 t694, .slice Ao163 t695.length co163, .bool t698, .slice Ao164 t699.length co164, .slice Ao165 t702.length co165, .slice Ao166 t705.length co166], .agg #[.slice Ao29 t561.length co29, .int .i64 t564, .int .i64 t565, .int .i64 t566, .slice Ao32 t567.length co32, .bool t570, .slice Ao33 t571.length co33, .slice Ao34 t574.length co34, .slice Ao35 t577.length co35]] ?_; (with_reducible refine (laws_eqBook.calls kj99 _ _ t689 t692 t693 t694 _ _ t695 t698 _ _ t699 _ _ t702 _ _ t705 _ _ t561 t564 t565 t566 _ _ t567 t570 _ _ t571 _ _ t574 _ _ t577 false _ ?side1 ?side2 ?side3 ?side4 ?side5 ?side6 ?side7 ?side8 ?side9 ?side10 ?side11 ?side12 ?side13 ?side14 ?side15 ?side16 ?side17 ?side18 ?side19 ?side20 A167.out).mono ?_); (case side1 => exact cf HO691 BK709); (case side2 => exact cl HO691); (case side3 => exact cf HO697 BK709); (case side4 => exact cl HO697); (case side5 => exact cf HO701 BK709); (case side6 => exact cl HO701); (case side7 => exact cf HO704 BK709); (case side8 => exact cl HO704); (case side9 => exact cf HO707 BK709); (case side10 => exact cl HO707); (case side11 => exact cf HO_582000 BK709); (case side12 => exact cl HO_582000); (case side13 => exact cf HO_582004 BK709); (case side14 => exact cl HO_582004); (case side15 => exact cf HO_582006 BK709); (case side16 => exact cl HO_582006); (case side17 => exact cf HO_582007 BK709); (case side18 => exact cl HO_582007); (case side19 => exact cf HO_582008 BK709); (case side20 => exact cl HO_582008); rintro e w188 ⟨rfl, hb⟩; refine ⟨_, rfl, ?_⟩; replace HO_582000 := kf HO_582000 BK709 hb; replace HO_582004 := kf HO_582004 BK709 hb; replace HO_582006 := kf HO_582006 BK709 hb; replace HO_582007 := kf HO_582007 BK709 hb; replace HO_582008 := kf HO_582008 BK709 hb; replace HO_602000 := kf HO_602000 BK709 hb; replace HO_602004 := kf HO_602004 BK709 hb; replace HO_602006 := kf HO_602006 BK709 hb; replace HO_602007 := kf HO_602007 BK709 hb; replace HO_602008 := kf HO_602008 BK709 hb; replace HO_626000 := kf HO_626000 BK709 hb; replace HO_626004 := kf HO_626004 BK709 hb; replace HO_626006 := kf HO_626006 BK709 hb; replace HO_626007 := kf HO_626007 BK709 hb; replace HO_626008 := kf HO_626008 BK709 hb; replace HO669 := kf HO669 BK709 hb; replace HO675 := kf HO675 BK709 hb; replace HO679 := kf HO679 BK709 hb; replace HO682 := kf HO682 BK709 hb; replace HO685 := kf HO685 BK709 hb; replace HO688 := kf HO688 BK709 hb; replace HO691 := kf HO691 BK709 hb; replace HO697 := kf HO697 BK709 hb; replace HO701 := kf HO701 BK709 hb; replace HO704 := kf HO704 BK709 hb; replace HO707 := kf HO707 BK709 hb; replace BK537 := Aside0.mk (blk_below (g := gb537) (o := .cells #[.slice A0_0 l0_0.length c0_0, .int .i64 a0_1, .int .i64 a0_2, .int .i64 a0_3, .slice A0_4 l0_4.length c0_4, .bool a0_5, .slice A0_6 l0_6.length c0_6, .slice A0_7 l0_7.length c0_7, .slice A0_8 l0_8.length c0_8] 28 (0, 0)) (by (with_reducible repeat (first | refine blk_drewN ?_ _ | refine blk_drew ?_ | refine blk_alloc ?_ _)); refine blk_far ?_ NB537_709.out _; (with_reducible repeat (first | refine blk_drewN ?_ _ | refine blk_drew ?_ | refine blk_alloc ?_ _)); refine blk_far ?_ NB537_709.out _; (with_reducible repeat (first | refine blk_drewN ?_ _ | refine blk_drew ?_ | refine blk_alloc ?_ _)); refine blk_far ?_ NB537_709.out _; (with_reducible repeat (first | refine blk_drewN ?_ _ | refine blk_drew ?_ | refine blk_alloc ?_ _)); refine blk_far ?_ NB537_709.out _; (with_reducible repeat (first | refine blk_drewN ?_ _ | refine blk_drew ?_ | refine blk_alloc ?_ _)); refine blk_far ?_ NB537_709.out _; (with_reducible repeat (first | refine blk_drewN ?_ _ | refine blk_drew ?_ | refine blk_alloc ?_ _)); refine blk_far ?_ NB537_709.out _; (with_reducible repeat (first | refine blk_drewN ?_ _ | refine blk_drew ?_ | refine blk_alloc ?_ _)); refine blk_far ?_ NB537_709.out _; (with_reducible repeat (first | refine blk_drewN ?_ _ | refine blk_drew ?_ | refine blk_alloc ?_ _)); refine blk_far ?_ NB537_709.out _; (with_reducible repeat (first | refine blk_drewN ?_ _ | refine blk_drew ?_ | refine blk_alloc ?_ _)); refine blk_far ?_ NB537_709.out _; (with_reducible repeat (first | refine blk_drewN ?_ _ | refine blk_drew ?_ | refine blk_alloc ?_ _)); exact BK537.out) hb); replace BK581 := Aside0.mk (blk_below (g := gb581) (o := .cells #[.slice Ao29 t561.length co29, .int .i64 t564, .int .i64 t565, .int .i64 t566, .slice Ao32 t567.length co32, .bool t570, .slice Ao33 t571.length co33, .slice Ao34 t574.length co34, .slice Ao35 t577.length co35] 34 (0, 0)) (by (with_reducible repeat (first | refine blk_drewN ?_ _ | refine blk_drew ?_ | refine blk_alloc ?_ _)); refine blk_far ?_ NB581_709.out _; (with_reducible repeat (first | refine blk_drewN ?_ _ | refine blk_drew ?_ | refine blk_alloc ?_ _)); refine blk_far ?_ NB581_709.out _; (with_reducible repeat (first | refine blk_drewN ?_ _ | refine blk_drew ?_ | refine blk_alloc ?_ _)); refine blk_far ?_ NB581_709.out _; (with_reducible repeat (first | refine blk_drewN ?_ _ | refine blk_drew ?_ | refine blk_alloc ?_ _)); refine blk_far ?_ NB581_709.out _; (with_reducible repeat (first | refine blk_drewN ?_ _ | refine blk_drew ?_ | refine blk_alloc ?_ _)); refine blk_far ?_ NB581_709.out _; (with_reducible repeat (first | refine blk_drewN ?_ _ | refine blk_drew ?_ | refine blk_alloc ?_ _)); refine blk_far ?_ NB581_709.out _; (with_reducible repeat (first | refine blk_drewN ?_ _ | refine blk_drew ?_ | refine blk_alloc ?_ _)); refine blk_far ?_ NB581_709.out _; (with_reducible repeat (first | refine blk_drewN ?_ _ | refine blk_drew ?_ | refine blk_alloc ?_ _)); refine blk_far ?_ NB581_709.out _; (with_reducible repeat (first | refine blk_drewN ?_ _ | refine blk_drew ?_ | refine blk_alloc ?_ _)); refine blk_far ?_ NB581_709.out _; (with_reducible repeat (first | refine blk_drewN ?_ _ | refine blk_drew ?_ | refine blk_alloc ?_ _)); exact BK581.out) hb); replace BK601 := Aside0.mk (blk_below (g := gb601) (o := .cells #[.slice Ao39 t652.length co39, .int .i64 t585, .int .i64 t586, .int .i64 t587, .slice Ao43 t653.length co43, .bool t591, .slice Ao44 t654.length co44, .slice Ao45 t655.length co45, .slice Ao46 t656.length co46] 34 (0, 0)) (by (with_reducible repeat (first | refine blk_drewN ?_ _ | refine blk_drew ?_ | refine blk_alloc ?_ _)); refine blk_far ?_ NB601_709.out _; (with_reducible repeat (first | refine blk_drewN ?_ _ | refine blk_drew ?_ | refine blk_alloc ?_ _)); refine blk_far ?_ NB601_709.out _; (with_reducible repeat (first | refine blk_drewN ?_ _ | refine blk_drew ?_ | refine blk_alloc ?_ _)); refine blk_far ?_ NB601_709.out _; (with_reducible repeat (first | refine blk_drewN ?_ _ | refine blk_drew ?_ | refine blk_alloc ?_ _)); refine blk_far ?_ NB601_709.out _; (with_reducible repeat (first | refine blk_drewN ?_ _ | refine blk_drew ?_ | refine blk_alloc ?_ _)); refine blk_far ?_ NB601_709.out _; (with_reducible repeat (first | refine blk_drewN ?_ _ | refine blk_drew ?_ | refine blk_alloc ?_ _)); refine blk_far ?_ NB601_709.out _; (with_reducible repeat (first | refine blk_drewN ?_ _ | refine blk_drew ?_ | refine blk_alloc ?_ _)); refine blk_far ?_ NB601_709.out _; (with_reducible repeat (first | refine blk_drewN ?_ _ | refine blk_drew ?_ | refine blk_alloc ?_ _)); refine blk_far ?_ NB601_709.out _; (with_reducible repeat (first | refine blk_drewN ?_ _ | refine blk_drew ?_ | refine blk_alloc ?_ _)); refine blk_far ?_ NB601_709.out _; (with_reducible repeat (first | refine blk_drewN ?_ _ | refine blk_drew ?_ | refine blk_alloc ?_ _)); exact BK601.out) hb); replace BK625 := Aside0.mk (blk_below (g := gb625) (o := .cells #[.slice Ao52 t605.length co52, .int .i64 t608, .int .i64 t609, .int .i64 t610, .slice Ao57 t611.length co57, .bool t614, .slice Ao58 t615.length co58, .slice Ao59 t618.length co59, .slice Ao60 t621.length co60] 34 (0, 0)) (by (with_reducible repeat (first | refine blk_drewN ?_ _ | refine blk_drew ?_ | refine blk_alloc ?_ _)); refine blk_far ?_ NB625_709.out _; (with_reducible repeat (first | refine blk_drewN ?_ _ | refine blk_drew ?_ | refine blk_alloc ?_ _)); refine blk_far ?_ NB625_709.out _; (with_reducible repeat (first | refine blk_drewN ?_ _ | refine blk_drew ?_ | refine blk_alloc ?_ _)); refine blk_far ?_ NB625_709.out _; (with_reducible repeat (first | refine blk_drewN ?_ _ | refine blk_drew ?_ | refine blk_alloc ?_ _)); refine blk_far ?_ NB625_709.out _; (with_reducible repeat (first | refine blk_drewN ?_ _ | refine blk_drew ?_ | refine blk_alloc ?_ _)); refine blk_far ?_ NB625_709.out _; (with_reducible repeat (first | refine blk_drewN ?_ _ | refine blk_drew ?_ | refine blk_alloc ?_ _)); refine blk_far ?_ NB625_709.out _; (with_reducible repeat (first | refine blk_drewN ?_ _ | refine blk_drew ?_ | refine blk_alloc ?_ _)); refine blk_far ?_ NB625_709.out _; (with_reducible repeat (first | refine blk_drewN ?_ _ | refine blk_drew ?_ | refine blk_alloc ?_ _)); refine blk_far ?_ NB625_709.out _; (with_reducible repeat (first | refine blk_drewN ?_ _ | refine blk_drew ?_ | refine blk_alloc ?_ _)); refine blk_far ?_ NB625_709.out _; (with_reducible repeat (first | refine blk_drewN ?_ _ | refine blk_drew ?_ | refine blk_alloc ?_ _)); exact BK625.out) hb); replace BK709 := Aside0.mk (blk_below (g := gb709) (o := .cells #[.slice Ao157 t689.length co157, .int .i64 t692, .int .i64 t693, .int .i64 t694, .slice Ao163 t695.length co163, .bool t698, .slice Ao164 t699.length co164, .slice Ao165 t702.length co165, .slice Ao166 t705.length co166] 34 (0, 0)) (by (with_reducible repeat (first | refine blk_drewN ?_ _ | refine blk_drew ?_ | refine blk_alloc ?_ _)); refine blk_put (cs := #[.slice Ao157 t689.length co157, .int .i64 t692, .int .i64 t693, .int .i64 t694, .slice Ao163 t695.length co163, .bool t698, .slice Ao164 t699.length co164, .slice Ao165 t702.length co165, .slice none 0 0]) ?_ 8 _ rfl; (with_reducible repeat (first | refine blk_drewN ?_ _ | refine blk_drew ?_ | refine blk_alloc ?_ _)); refine blk_put (cs := #[.slice Ao157 t689.length co157, .int .i64 t692, .int .i64 t693, .int .i64 t694, .slice Ao163 t695.length co163, .bool t698, .slice Ao164 t699.length co164, .slice none 0 0, .slice none 0 0]) ?_ 7 _ rfl; (with_reducible repeat (first | refine blk_drewN ?_ _ | refine blk_drew ?_ | refine blk_alloc ?_ _)); refine blk_put (cs := #[.slice Ao157 t689.length co157, .int .i64 t692, .int .i64 t693, .int .i64 t694, .slice Ao163 t695.length co163, .bool t698, .slice none 0 0, .slice none 0 0, .slice none 0 0]) ?_ 6 _ rfl; (with_reducible repeat (first | refine blk_drewN ?_ _ | refine blk_drew ?_ | refine blk_alloc ?_ _)); refine blk_put (cs := #[.slice Ao157 t689.length co157, .int .i64 t692, .int .i64 t693, .int .i64 t694, .slice Ao163 t695.length co163, .bool false, .slice none 0 0, .slice none 0 0, .slice none 0 0]) ?_ 5 _ rfl; (with_reducible repeat (first | refine blk_drewN ?_ _ | refine blk_drew ?_ | refine blk_alloc ?_ _)); refine blk_put (cs := #[.slice Ao157 t689.length co157, .int .i64 t692, .int .i64 t693, .int .i64 t694, .slice none 0 0, .bool false, .slice none 0 0, .slice none 0 0, .slice none 0 0]) ?_ 4 _ rfl; (with_reducible repeat (first | refine blk_drewN ?_ _ | refine blk_drew ?_ | refine blk_alloc ?_ _)); refine blk_put (cs := #[.slice Ao157 t689.length co157, .int .i64 t692, .int .i64 t693, .int .i64 0, .slice none 0 0, .bool false, .slice none 0 0, .slice none 0 0, .slice none 0 0]) ?_ 3 _ rfl; (with_reducible repeat (first | refine blk_drewN ?_ _ | refine blk_drew ?_ | refine blk_alloc ?_ _)); refine blk_put (cs := #[.slice Ao157 t689.length co157, .int .i64 t692, .int .i64 0, .int .i64 0, .slice none 0 0, .bool false, .slice none 0 0, .slice none 0 0, .slice none 0 0]) ?_ 2 _ rfl; (with_reducible repeat (first | refine blk_drewN ?_ _ | refine blk_drew ?_ | refine blk_alloc ?_ _)); refine blk_put (cs := #[.slice Ao157 t689.length co157, .int .i64 0, .int .i64 0, .int .i64 0, .slice none 0 0, .bool false, .slice none 0 0, .slice none 0 0, .slice none 0 0]) ?_ 1 _ rfl; (with_reducible repeat (first | refine blk_drewN ?_ _ | refine blk_drew ?_ | refine blk_alloc ?_ _)); refine blk_put (cs := #[.slice none 0 0, .int .i64 0, .int .i64 0, .int .i64 0, .slice none 0 0, .bool false, .slice none 0 0, .slice none 0 0, .slice none 0 0]) ?_ 0 _ rfl; (with_reducible repeat (first | refine blk_drewN ?_ _ | refine blk_drew ?_ | refine blk_alloc ?_ _)); exact BK709.out) hb); replace HB := hs_ HB hb; (try clear hb hb2 hk hi)))
               go_meet
               case rel => exact ⟨_, (true), e2_, H', ⟨by have := HJ16.out; have := HJ99.out; first | omega | exact Nat.le_refl _⟩, ⟨by (try simp only [hl602000_99, hl602004_99, hl602006_99, hl602007_99, hl602008_99]); exact rp HO_582000⟩, ⟨by (try simp only [hl602000_99, hl602004_99, hl602006_99, hl602007_99, hl602008_99]); exact rp HO_582004⟩, ⟨by (try simp only [hl602000_99, hl602004_99, hl602006_99, hl602007_99, hl602008_99]); exact rp HO_582006⟩, ⟨by (try simp only [hl602000_99, hl602004_99, hl602006_99, hl602007_99, hl602008_99]); exact rp HO_582007⟩, ⟨by (try simp only [hl602000_99, hl602004_99, hl602006_99, hl602007_99, hl602008_99]); exact rp HO_582008⟩, ⟨by (try simp only [hl602000_99, hl602004_99, hl602006_99, hl602007_99, hl602008_99]); exact rp HO_602000⟩, ⟨by (try simp only [hl602000_99, hl602004_99, hl602006_99, hl602007_99, hl602008_99]); exact rp HO_602004⟩, ⟨by (try simp only [hl602000_99, hl602004_99, hl602006_99, hl602007_99, hl602008_99]); exact rp HO_602006⟩, ⟨by (try simp only [hl602000_99, hl602004_99, hl602006_99, hl602007_99, hl602008_99]); exact rp HO_602007⟩, ⟨by (try simp only [hl602000_99, hl602004_99, hl602006_99, hl602007_99, hl602008_99]); exact rp HO_602008⟩, ⟨by (try simp only [hl602000_99, hl602004_99, hl602006_99, hl602007_99, hl602008_99]); exact rp HO_626000⟩, ⟨by (try simp only [hl602000_99, hl602004_99, hl602006_99, hl602007_99, hl602008_99]); exact rp HO_626004⟩, ⟨by (try simp only [hl602000_99, hl602004_99, hl602006_99, hl602007_99, hl602008_99]); exact rp HO_626006⟩, ⟨by (try simp only [hl602000_99, hl602004_99, hl602006_99, hl602007_99, hl602008_99]); exact rp HO_626007⟩, ⟨by (try simp only [hl602000_99, hl602004_99, hl602006_99, hl602007_99, hl602008_99]); exact rp HO_626008⟩, ⟨by (try simp only [hl602000_99, hl602004_99, hl602006_99, hl602007_99, hl602008_99]); exact rp HO691⟩, ⟨by (try simp only [hl602000_99, hl602004_99, hl602006_99, hl602007_99, hl602008_99]); exact rp HO697⟩, ⟨by (try simp only [hl602000_99, hl602004_99, hl602006_99, hl602007_99, hl602008_99]); exact rp HO701⟩, ⟨by (try simp only [hl602000_99, hl602004_99, hl602006_99, hl602007_99, hl602008_99]); exact rp HO704⟩, ⟨by (try simp only [hl602000_99, hl602004_99, hl602006_99, hl602007_99, hl602008_99]); exact rp HO707⟩, ⟨by (try simp only [hl602000_99]); (try simp only [hl602004_99]); (try simp only [hl602006_99]); (try simp only [hl602007_99]); (try simp only [hl602008_99]); (with_reducible repeat (first | refine blk_drewN ?_ _ | refine blk_drew ?_ | refine blk_alloc ?_ _)); exact BK537.out⟩, ⟨by (try simp only [hl602000_99]); (try simp only [hl602004_99]); (try simp only [hl602006_99]); (try simp only [hl602007_99]); (try simp only [hl602008_99]); (with_reducible repeat (first | refine blk_drewN ?_ _ | refine blk_drew ?_ | refine blk_alloc ?_ _)); exact BK581.out⟩, ⟨by (try simp only [hl602000_99]); (try simp only [hl602004_99]); (try simp only [hl602006_99]); (try simp only [hl602007_99]); (try simp only [hl602008_99]); (with_reducible repeat (first | refine blk_drewN ?_ _ | refine blk_drew ?_ | refine blk_alloc ?_ _)); exact BK601.out⟩, ⟨by (try simp only [hl602000_99]); (try simp only [hl602004_99]); (try simp only [hl602006_99]); (try simp only [hl602007_99]); (try simp only [hl602008_99]); (with_reducible repeat (first | refine blk_drewN ?_ _ | refine blk_drew ?_ | refine blk_alloc ?_ _)); exact BK625.out⟩, ⟨by (try simp only [hl602000_99]); (try simp only [hl602004_99]); (try simp only [hl602006_99]); (try simp only [hl602007_99]); (try simp only [hl602008_99]); (with_reducible repeat (first | refine blk_drewN ?_ _ | refine blk_drew ?_ | refine blk_alloc ?_ _)); exact BK709.out⟩, ⟨bb HB⟩⟩
             case rest =>
              clear HC142
              (try clear c1)
              (try clear p2)
              (try clear c7)
              (try clear c8)
              (try clear c9)
              (try clear c10)
              (try clear c11)
              (try clear c12)
              (try clear c13)
              (try clear c14)
              (try clear c15)
              (try clear c16)
              (try clear c17)
              (try clear c18)
              (try clear c79)
              (try clear c91)
              (try clear c97)
              (try clear c101)
              (try clear c102)
              (try clear c103)
              (try clear c107)
              (try clear c107b0)
              (try clear c107b1)
              (try clear c109)
              (try clear c110)
              (try clear c111)
              (try clear c112)
              (try clear c114)
              (try clear c115)
              (try clear c118)
              (try clear c119)
              (try clear c120)
              (try clear c122)
              (try clear c123)
              (try clear c126)
              (try clear c130)
              (try clear c131)
              (try clear c132)
              (try clear c137)
              (try clear c137b0)
              (try clear c137b1)
              (try clear c138)
              (try clear c138b0)
              (try clear c138b1)
              (try clear c143)
              (try clear c144)
              (try clear c145)
              (try clear c158)
              (try clear c159)
              (try clear c160)
              (try clear c161)
              (try clear c168)
              (try clear c169)
              (try clear c170)
              (try clear c171)
              (try clear c172)
              (try clear c174)
              (try clear c175)
              (try clear c176)
              (try clear c179)
              (try clear c180)
              (try clear c181)
              (try clear c182)
              (try clear c184)
              (try clear c185)
              (try clear c186)
              (try clear hcz104_0 hcz104_1 hcz104_2 hcz104_3 hcz104_4 hcz104_5 hcz104_6 hcz104_7 hcz104_8)
              (try clear hcz113_0 hcz113_1 hcz113_2 hcz113_3 hcz113_4 hcz113_5 hcz113_6 hcz113_7 hcz113_8)
              (try clear hcz116_0 hcz116_1 hcz116_2 hcz116_3 hcz116_4 hcz116_5 hcz116_6 hcz116_7 hcz116_8)
              (try clear hcz121_0 hcz121_1 hcz121_2 hcz121_3 hcz121_4 hcz121_5 hcz121_6 hcz121_7 hcz121_8)
              (try clear hcz124_0 hcz124_1 hcz124_2 hcz124_3 hcz124_4 hcz124_5 hcz124_6 hcz124_7 hcz124_8)
              (try clear hcz133_0 hcz133_1 hcz133_2 hcz133_3 hcz133_4 hcz133_5 hcz133_6 hcz133_7 hcz133_8)
              (try clear hcz135_0 hcz135_1 hcz135_2 hcz135_3 hcz135_4 hcz135_5 hcz135_6 hcz135_7 hcz135_8)
              (try clear hcz146_0 hcz146_1 hcz146_2 hcz146_3 hcz146_4 hcz146_5 hcz146_6 hcz146_7 hcz146_8)
              (try clear hcz162_0 hcz162_1 hcz162_2 hcz162_3 hcz162_4 hcz162_5 hcz162_6 hcz162_7 hcz162_8)
              (try clear hcz173_0 hcz173_1 hcz173_2 hcz173_3 hcz173_4 hcz173_5 hcz173_6 hcz173_7 hcz173_8)
              (try clear hcz177_0 hcz177_1 hcz177_2 hcz177_3 hcz177_4 hcz177_5 hcz177_6 hcz177_7 hcz177_8)
              (try clear hcz183_0 hcz183_1 hcz183_2 hcz183_3 hcz183_4 hcz183_5 hcz183_6 hcz183_7 hcz183_8)
              (try clear hcz187_0 hcz187_1 hcz187_2 hcz187_3 hcz187_4 hcz187_5 hcz187_6 hcz187_7 hcz187_8)
              (try clear hfz104_0 hfz104_1 hfz104_2 hfz104_3 hfz104_4 hfz104_5 hfz104_6 hfz104_7 hfz104_8)
              (try clear hfz113_0 hfz113_1 hfz113_2 hfz113_3 hfz113_4 hfz113_5 hfz113_6 hfz113_7 hfz113_8)
              (try clear hfz116_0 hfz116_1 hfz116_2 hfz116_3 hfz116_4 hfz116_5 hfz116_6 hfz116_7 hfz116_8)
              (try clear hfz121_0 hfz121_1 hfz121_2 hfz121_3 hfz121_4 hfz121_5 hfz121_6 hfz121_7 hfz121_8)
              (try clear hfz124_0 hfz124_1 hfz124_2 hfz124_3 hfz124_4 hfz124_5 hfz124_6 hfz124_7 hfz124_8)
              (try clear hfz133_0 hfz133_1 hfz133_2 hfz133_3 hfz133_4 hfz133_5 hfz133_6 hfz133_7 hfz133_8)
              (try clear hfz135_0 hfz135_1 hfz135_2 hfz135_3 hfz135_4 hfz135_5 hfz135_6 hfz135_7 hfz135_8)
              (try clear hfz146_0 hfz146_1 hfz146_2 hfz146_3 hfz146_4 hfz146_5 hfz146_6 hfz146_7 hfz146_8)
              (try clear hfz162_0 hfz162_1 hfz162_2 hfz162_3 hfz162_4 hfz162_5 hfz162_6 hfz162_7 hfz162_8)
              (try clear hfz173_0 hfz173_1 hfz173_2 hfz173_3 hfz173_4 hfz173_5 hfz173_6 hfz173_7 hfz173_8)
              (try clear hfz177_0 hfz177_1 hfz177_2 hfz177_3 hfz177_4 hfz177_5 hfz177_6 hfz177_7 hfz177_8)
              (try clear hfz183_0 hfz183_1 hfz183_2 hfz183_3 hfz183_4 hfz183_5 hfz183_6 hfz183_7 hfz183_8)
              (try clear hfz187_0 hfz187_1 hfz187_2 hfz187_3 hfz187_4 hfz187_5 hfz187_6 hfz187_7 hfz187_8)
              (try clear hfz69_1 hfz69_2 hfz69_3 hfz69_4 hfz69_5 hfz69_6 hfz69_7 hfz69_8)
              (try clear hfz74_0 hfz74_1 hfz74_2 hfz74_3 hfz74_4 hfz74_5 hfz74_6 hfz74_7 hfz74_8)
              (try clear hfz77_0 hfz77_1 hfz77_2 hfz77_3 hfz77_4 hfz77_5 hfz77_6 hfz77_7 hfz77_8)
              (try clear hfz8_0 hfz8_1 hfz8_2 hfz8_3 hfz8_4 hfz8_5 hfz8_6 hfz8_7 hfz8_8)
              (try clear p2)
              obtain ⟨kq, x108_141, rfl, HA, HJ141, HO_582000, HO_582004, HO_582006, HO_582007, HO_582008, HO_602000, HO_602004, HO_602006, HO_602007, HO_602008, HO_626000, HO_626004, HO_626006, HO_626007, HO_626008, HO_710000, HO_710004, HO_710006, HO_710007, HO_710008, BK537, BK581, BK601, BK625, BK709, HB⟩ := hcut
              have hl626000_141 := (Kd.R_reads' HO_626000.out).1
              rw [hl626000_141] at HO_626000
              (try simp only [hl626000_141] at BK537 BK581 BK601 BK625 BK709 HO_582000 HO_582004 HO_582006 HO_582007 HO_582008 HO_602000 HO_602004 HO_602006 HO_602007 HO_602008 HO_626004 HO_626006 HO_626007 HO_626008 HO_710000 HO_710004 HO_710006 HO_710007 HO_710008 ⊢)
              have hl626004_141 := (Kd.R_reads' HO_626004.out).1
              rw [hl626004_141] at HO_626004
              (try simp only [hl626004_141] at BK537 BK581 BK601 BK625 BK709 HO_582000 HO_582004 HO_582006 HO_582007 HO_582008 HO_602000 HO_602004 HO_602006 HO_602007 HO_602008 HO_626000 HO_626006 HO_626007 HO_626008 HO_710000 HO_710004 HO_710006 HO_710007 HO_710008 ⊢)
              have hl626006_141 := (Kd.R_reads' HO_626006.out).1
              rw [hl626006_141] at HO_626006
              (try simp only [hl626006_141] at BK537 BK581 BK601 BK625 BK709 HO_582000 HO_582004 HO_582006 HO_582007 HO_582008 HO_602000 HO_602004 HO_602006 HO_602007 HO_602008 HO_626000 HO_626004 HO_626007 HO_626008 HO_710000 HO_710004 HO_710006 HO_710007 HO_710008 ⊢)
              have hl626007_141 := (Kd.R_reads' HO_626007.out).1
              rw [hl626007_141] at HO_626007
              (try simp only [hl626007_141] at BK537 BK581 BK601 BK625 BK709 HO_582000 HO_582004 HO_582006 HO_582007 HO_582008 HO_602000 HO_602004 HO_602006 HO_602007 HO_602008 HO_626000 HO_626004 HO_626006 HO_626008 HO_710000 HO_710004 HO_710006 HO_710007 HO_710008 ⊢)
              have hl626008_141 := (Kd.R_reads' HO_626008.out).1
              rw [hl626008_141] at HO_626008
              (try simp only [hl626008_141] at BK537 BK581 BK601 BK625 BK709 HO_582000 HO_582004 HO_582006 HO_582007 HO_582008 HO_602000 HO_602004 HO_602006 HO_602007 HO_602008 HO_626000 HO_626004 HO_626006 HO_626007 HO_710000 HO_710004 HO_710006 HO_710007 HO_710008 ⊢)
              cases kq with
              | zero => exact absurd HA.out (by simp [laws_FnExactWithOutcome.j2])
              | succ kj141 =>
               have H := HA.out
               clear HA
               simp only [laws_FnExactWithOutcome.j2] at H
               by_cases c189 : x108_141 = true
               ·subst c189
                rw [if_pos rfl] at H
                obtain rfl := Option.some.inj H
                go_wp2
                go_ret
                exact ⟨ee, bb HB⟩
               ·replace c189 := Bool.eq_false_iff.mpr c189
                subst c189
                rw [if_neg (show ¬ (false = true) by decide)] at H
                replace H := Option.bind_eq_some_iff.mp H
                obtain ⟨t711, A1900, H⟩ := H
                try dsimp only at H
                have A190 := Aside0.mk A1900
                clear A1900
                have HC191 := Aside0.mk H
                clear H
                have hnb192 := NB625_537.out
                have hnc192 := NB537_625.out
                have hnb193 := NB625_581.out
                have hnc193 := NB581_625.out
                have hnb194 := NB625_601.out
                have hnc194 := NB601_625.out
                have hnb195 := NB625_709.out
                have hnc195 := NB709_625.out
                have ⟨hcz196_0, hcz196_1, hcz196_2, hcz196_3, hcz196_4, hcz196_5, hcz196_6, hcz196_7, hcz196_8, hfz196_0, hfz196_1, hfz196_2, hfz196_3, hfz196_4, hfz196_5, hfz196_6, hfz196_7, hfz196_8⟩ := rz9 BK625
                go_upto_if 113 with (first | ((with_reducible refine gate_callee (f := 15) rfl ?_); refine gl (some 111) Try.func15 #[.agg #[.slice Ao52 t661.length co52, .int .i64 t608, .int .i64 t609, .int .i64 t610, .slice Ao57 t662.length co57, .bool t614, .slice Ao58 t663.length co58, .slice Ao59 t664.length co59, .slice Ao60 t665.length co60], .int .i64 1] ?_; (with_reducible refine (laws_heldBook.calls kj141 _ _ t661 t608 t609 t610 _ _ t662 t614 _ _ t663 _ _ t664 _ _ t665 1 t711 _ ?side1 ?side2 ?side3 ?side4 ?side5 ?side6 ?side7 ?side8 ?side9 ?side10 A190.out).mono ?_); (case side1 => exact cr HO_626000); (case side2 => exact cl HO_626000); (case side3 => exact cr HO_626004); (case side4 => exact cl HO_626004); (case side5 => exact cr HO_626006); (case side6 => exact cl HO_626006); (case side7 => exact cr HO_626007); (case side8 => exact cl HO_626007); (case side9 => exact cr HO_626008); (case side10 => exact cl HO_626008); rintro e w197 ⟨rfl, hb⟩; refine ⟨_, rfl, ?_⟩; replace HO_582000 := kr HO_582000 hb; replace HO_582004 := kr HO_582004 hb; replace HO_582006 := kr HO_582006 hb; replace HO_582007 := kr HO_582007 hb; replace HO_582008 := kr HO_582008 hb; replace HO_602000 := kr HO_602000 hb; replace HO_602004 := kr HO_602004 hb; replace HO_602006 := kr HO_602006 hb; replace HO_602007 := kr HO_602007 hb; replace HO_602008 := kr HO_602008 hb; replace HO_626000 := kr HO_626000 hb; replace HO_626004 := kr HO_626004 hb; replace HO_626006 := kr HO_626006 hb; replace HO_626007 := kr HO_626007 hb; replace HO_626008 := kr HO_626008 hb; replace HO_710000 := kr HO_710000 hb; replace HO_710004 := kr HO_710004 hb; replace HO_710006 := kr HO_710006 hb; replace HO_710007 := kr HO_710007 hb; replace HO_710008 := kr HO_710008 hb; replace BK537 := kb BK537 hb; replace BK581 := kb BK581 hb; replace BK601 := kb BK601 hb; replace BK625 := kb BK625 hb; replace BK709 := kb BK709 hb; replace HB := hs_ HB hb; (try clear hb hb2 hk hi)))
                (try simp only [Act.put, List.setIfInBounds_toArray, List.set_cons_zero, List.set_cons_succ])
                have H := HC191.out
                clear HC191
                by_cases c198 : t711 < 0
                ·rw [if_pos c198] at H
                 have c198b0 : decide (t711 < 0) = true := decide_eq_true c198
                 clear c198
                 (first | rw [c198b0] | rw [c198b1] | (simp only [i64_w, i32_w]; rw [c198b0]) | skip)
                 obtain rfl := Option.some.inj H
                 go_wp2
                 go_ret
                 exact ⟨ee, bb HB⟩
                ·rw [if_neg c198] at H
                 have c198b0 : decide (t711 < 0) = false := decide_eq_false c198
                 clear c198
                 (first | rw [c198b0] | rw [c198b1] | (simp only [i64_w, i32_w]; rw [c198b0]) | skip)
                 by_cases c199 : t711 = t660
                 ·rw [if_pos c199] at H
                  have c199b0 : (t711 == t660) = true := beq_iff_eq.mpr c199
                  have c199b1 : (t711 != t660) = false := bne_eq_false_iff_eq.mpr c199
                  clear c199
                  obtain rfl := Option.some.inj H
                  go_wp2
                  go_ret
                  exact ⟨ee, bb HB⟩
                 ·rw [if_neg c199] at H
                  have c199b0 : (t711 == t660) = false := beq_eq_false_iff_ne.mpr c199
                  have c199b1 : (t711 != t660) = true := bne_iff_ne.mpr c199
                  obtain rfl := Option.some.inj H
                  go_wp2
                  go_ret
                  exact ⟨ee, bb HB⟩
            ·rw [if_neg c138] at H
             have c138b0 : (t666 == t660) = false := beq_eq_false_iff_ne.mpr c138
             have c138b1 : (t666 != t660) = true := bne_iff_ne.mpr c138
             obtain rfl := Option.some.inj H
             go_wp2
             go_ret
             exact ⟨ee, bb HB⟩
       ·replace c97 := Bool.eq_false_iff.mpr c97
        subst c97
        rw [if_neg (show ¬ (false = true) by decide)] at H
        obtain rfl := Option.some.inj H
        go_wp2
        go_ret
        exact ⟨ee, bb HB⟩
      ·replace c91 := Bool.eq_false_iff.mpr c91
       subst c91
       rw [if_neg (show ¬ (false = true) by decide)] at H
       obtain rfl := Option.some.inj H
       go_wp2
       go_ret
       exact ⟨ee, bb HB⟩
end Go.Proofs.Ytoaepoffooomnaa.Q
end
namespace Go.Proofs.Ytoaepoffooomnaa.Opens
open Go.ChangeShapes Go.WideShapes Go.ChangeAt Go.RowKit Go.Proofs.Ytoaepoffooomnaa.Q Go.Proofs.YtoaepoffooomnaaW.PrintWords Go.Proofs.YtoaepoffooomnaaW.PrintLast
section
variable {H : Type} (enc : TypeId × Value → H) (P : Program) (W : World)
def Opens {α : Type} (t : TypeId) (d : Kd α) (ok : α → Prop) : Prop := ∀ (fuel : Nat) (cs : List Value) (x : DataW H × List MemPlace), DataW.trod enc P W 0 (fun _ => true) true fuel t cs = some x → ∃ a, d.K W a cs ∧ ok a
def OpensFs {α : Type} (off : Nat) (fs : List Field) (d : Kd α) (ok : α → Prop) : Prop :=
  ∀ (n : Nat) (cs : List Value) (xs : List (DataW H × List MemPlace)), (∀ (i : Nat) (f : Field), fs[i]? = some f → DataW.trod enc P W 0 (fun _ => true) true n f.type ((cs.drop f.offset).take (P.cellsOf f.type)) = xs[i]?) → xs.length = fs.length → cs.length = off + d.sz → ∃ a, d.K W a (cs.drop off) ∧ ok a
variable {enc P W}
variable {α β : Type} {t : TypeId} {d : Kd α} {d2 : Kd β} {ok : α → Prop} {ok2 : β → Prop}
theorem int {k : IntKind} (ht : P.underlying t = some (.int k)) : Opens enc P W t (Kd.int k) (fun n => (Lit.int k n).wf = true) := fun fuel cs x h => by
  obtain ⟨n, rfl, _, hw⟩ := DataW.trod_int ht h
  exact ⟨n, rfl, hw⟩
theorem bool (ht : P.underlying t = some .bool) : Opens enc P W t Kd.bool (fun _ => True) := fun fuel cs x h => by
  obtain ⟨b, rfl, _⟩ := DataW.trod_bool ht h
  exact ⟨b, rfl, trivial⟩
theorem string (ht : P.underlying t = some .string) : Opens enc P W t Kd.string (fun s => s.size ≤ maxLen) := fun fuel cs x h => by
  obtain ⟨s, rfl, _, hs⟩ := DataW.trod_string ht h
  exact ⟨s, rfl, hs⟩
theorem cells_get {w : World} {base : Nat} {a : Addr} {n : Nat} {cs : List Value} (h : w.cells? base a n = some cs) : cs.length = n ∧ ∀ i u, cs[i]? = some u → w.cell? (a.add i) = some u := by
  unfold World.cells? at h
  split at h
  · have hl := mapM_some_length h
    refine ⟨by simpa using hl, fun i u hi => ?_⟩
    have hlt : i < n := by have := (List.getElem?_eq_some_iff.mp hi).1; simp at hl; omega
    have := mapM_some_get h i i (by simp [hlt])
    rw [this, hi]
  · cases h
theorem add_add (a : Addr) (i j : Nat) : (a.add i).add j = a.add (i + j) := by
  unfold Addr.add
  by_cases hi : i = 0
  · subst hi; simp
  · by_cases hj : j = 0
    · subst hj; simp [hi]
    · simp [hi, hj]; omega
theorem slice {e : TypeId} (ht : P.underlying t = some (.slice e)) (he : Opens enc P W e d ok) (hc : P.cellsOf e = d.sz) (q : Nat) : Opens enc P W t (Kd.slice q d) (fun l => l.length ≤ maxLen ∧ ∀ x ∈ l, ok x) := fun fuel cs x h => by
  rcases DataW.trod_slice ht h with ⟨rfl, _⟩ | ⟨a, len, cap, elems, rest, n, _, rfl, _, _, hl, hm, hlen, hel, _⟩
  · exact ⟨[], ⟨none, 0, rfl, Nat.le_refl _, rfl, Nat.zero_le _, fun h => absurd h (Nat.not_lt_zero _)⟩, Nat.zero_le _, fun x hx => by cases hx⟩
  · have each : ∀ i : Fin len, ∃ p : α, ok p ∧ ∃ c, c.length = d.sz ∧ d.K W p c ∧ ∀ j u, c[j]? = some u → W.cell? (a.add (i.1 * d.sz + j)) = some u := by
      intro i
      have h1 := hel i.1 i.2
      obtain ⟨y, hy⟩ : ∃ y, elems[i.1]? = some y := ⟨elems[i.1]'(by have := i.2; omega), List.getElem?_eq_getElem (by have := i.2; omega)⟩
      rw [hy, Option.bind_eq_some_iff] at h1
      obtain ⟨c, hcs, htr⟩ := h1
      rw [hc] at hcs
      obtain ⟨p, hK, hok⟩ := he _ _ _ htr
      obtain ⟨h2, h3⟩ := cells_get hcs
      exact ⟨p, hok, c, h2, hK, fun j u hj => by rw [← add_add]; exact h3 j u hj⟩
    let f : Fin len → α := fun i => (each i).choose
    have hf : ∀ i : Fin len, ok (f i) ∧ ∃ c, c.length = d.sz ∧ d.K W (f i) c ∧ ∀ j u, c[j]? = some u → W.cell? (a.add (i.1 * d.sz + j)) = some u := fun i => (each i).choose_spec
    have hm' : len ≤ maxLen := Nat.le_trans hl hm
    refine ⟨List.ofFn f, ⟨some a, cap, by simp, by simpa using hl, by simp, by simpa [maxLen] using hm', fun _ => ⟨a, rfl, fun j p hj => ?_⟩⟩, by simpa using hm', fun x hx => ?_⟩
    · have hlt : j < len := by have := (List.getElem?_eq_some_iff.mp hj).1; simpa using this
      have : p = f ⟨j, hlt⟩ := by rw [List.getElem?_eq_getElem (by simpa using hlt)] at hj; simpa using hj.symm
      subst this
      obtain ⟨_, c, h1, h2, h3⟩ := hf ⟨j, hlt⟩
      exact ⟨c, h1, h2, h3⟩
    · obtain ⟨i, hi, rfl⟩ := List.mem_iff_getElem.mp hx
      simp only [List.getElem_ofFn]
      exact (hf _).1
theorem one {f : Field} (off : Nat) (ho : f.offset = off) (he : Opens enc P W f.type d ok) (hc : P.cellsOf f.type = d.sz) : OpensFs enc P W off [f] d ok := fun n cs xs h hx hl => by
  have h0 := h 0 f rfl
  have hz : xs.length = 1 := hx
  obtain ⟨y, rfl⟩ := List.length_eq_one_iff.mp hz
  rw [ho, hc, List.take_of_length_le (by simp; omega)] at h0
  exact he _ _ _ h0
theorem cons {f : Field} {fs : List Field} (off off2 : Nat) (ho : f.offset = off) (he : Opens enc P W f.type d ok) (hc : P.cellsOf f.type = d.sz) (h2 : off + d.sz = off2) (hr : OpensFs enc P W off2 fs d2 ok2) :
    OpensFs enc P W off (f :: fs) (Kd.pair d d2) (fun x => ok x.1 ∧ ok2 x.2) := fun n cs xs h hx hl => by
  cases xs with
  | nil => simp at hx
  | cons y ys =>
    have h0 := h 0 f rfl
    rw [ho, hc] at h0
    obtain ⟨p, hp, hok⟩ := he _ _ _ h0
    have hl' : cs.length = off + (d.sz + d2.sz) := hl
    obtain ⟨q, hq, hok2⟩ := hr n cs ys (fun i g hi => h (i + 1) g hi) (by simpa using hx) (by omega)
    refine ⟨(p, q), ⟨_, _, ?_, hp, hq⟩, hok, hok2⟩
    rw [← h2, ← List.drop_drop, List.take_append_drop]
theorem struct {fs : Array Field} (ht : P.underlying t = some (.struct fs)) (hc : P.cellsOf t = d.sz) (h : OpensFs enc P W 0 fs.toList d ok) : Opens enc P W t d ok := fun fuel cs x hx => by
  obtain ⟨xs, n, _, _, hl, hxs, hf⟩ := DataW.trod_struct ht hx
  have := h n cs xs (fun i f hi => hf i f (by simpa using hi)) (by simpa using hxs) (by omega)
  simpa using this
theorem iso {f : β → α} (g : α → β) (hg : ∀ x, f (g x) = x) (h : Opens enc P W t d ok) : Opens enc P W t (Kd.iso d f) (fun y => ok (f y)) := fun fuel cs x hx => by
  obtain ⟨p, hp, hok⟩ := h _ _ _ hx
  exact ⟨g p, by show d.K W (f (g p)) cs; rw [hg]; exact hp, by show ok (f (g p)); rw [hg]; exact hok⟩
end
theorem trod_struct_val {H : Type} {enc : TypeId × Value → H} {P : Program} {W : World} {r : Reach} {b0 : Nat} {t : TypeId} {v : Value} {fs : Array Field} {α : Type} {d : Kd α} {ok : α → Prop} {dd : DataW H} {ps : List MemPlace} (ht : P.underlying t = some (.struct fs)) (hval : Value.okWide P W r b0 t v) (hd : DataW.Trod enc P W 0 (fun _ => true) true t v dd ps) (h : Opens enc P W t d ok) :
    ∃ cs a, v = .agg cs ∧ d.K W a cs.toList ∧ ok a := by
  obtain ⟨cs, rfl, _⟩ := okWide_struct ht hval
  obtain ⟨fuel, hf⟩ := hd
  obtain ⟨a, hK, hok⟩ := h _ _ _ hf
  exact ⟨cs, a, rfl, by simpa [Value.cells] using hK, hok⟩
theorem trod_slice_val {H : Type} {enc : TypeId × Value → H} {P : Program} {W : World} {r : Reach} {b0 : Nat} {t e : TypeId} {v : Value} {α : Type} {d : Kd α} {ok : List α → Prop} {q : Nat} {dd : DataW H} {ps : List MemPlace} (ht : P.underlying t = some (.slice e)) (hval : Value.okWide P W r b0 t v) (hd : DataW.Trod enc P W 0 (fun _ => true) true t v dd ps) (h : Opens enc P W t (Kd.slice q d) ok) :
    ∃ A c l, v = .slice A l.length c ∧ l.length ≤ c ∧ d.C W A l.length l ∧ ok l := by
  obtain ⟨a0, len0, cap0, rfl⟩ := okWide_slice ht hval
  obtain ⟨fuel, hf⟩ := hd
  obtain ⟨l, ⟨A, c, he, hl, hC⟩, hok⟩ := h _ _ _ hf
  refine ⟨A, c, l, by simpa [Value.cells] using he, hl, hC, hok⟩
end Go.Proofs.Ytoaepoffooomnaa.Opens
namespace Go.Proofs.Ytoaepoffooomnaa.Q
open Go.RowKit Go.Proofs.YtoaepoffooomnaaW.PrintWords Go.Proofs.YtoaepoffooomnaaW.PrintLast Go.Proofs.YtoaepoffooomnaaW.PrintMore
abbrev Team := S87
abbrev Game := S75
theorem wrap_id (x : Int) (h0 : -9223372036854775808 ≤ x) (h1 : x ≤ 9223372036854775807) : wrap64 x = x := by unfold wrap64; omega
theorem Ev.down {β : Type} (n : Nat) (F : Nat → Nat → Option β) (V : Nat → β) (hend : Ev (F n) (V n)) (hstep : ∀ i, i < n → Ev (F (i + 1)) (V (i + 1)) → Ev (F i) (V i)) : Ev (F 0) (V 0) := by
  have key : ∀ d i, i + d = n → Ev (F i) (V i) := by
    intro d
    induction d with
    | zero => intro i hi; obtain rfl : i = n := by omega
              exact hend
    | succ d ih => intro i hi; exact hstep i (by omega) (ih (i + 1) (by omega))
  exact key n 0 (by omega)
theorem Ev.eq {β : Type} {g : Nat → Option β} {r q : β} (h : Ev g r) (e : r = q) : Ev g q := e ▸ h
theorem Ev.loop {β : Type} {g : Nat → Option β} {r : β} (n : Nat) (F : Nat → Nat → Option β) (V : Nat → β) (hg : ∀ k, g k = F 0 k) (hr : V 0 = r) (hend : Ev (F n) (V n)) (hstep : ∀ i, i < n → Ev (F (i + 1)) (V (i + 1)) → Ev (F i) (V i)) : Ev g r :=
  Ev.eq (Ev.congr hg (Ev.down n F V hend hstep)) hr
theorem Ev.from {β : Type} {g : Nat → Option β} {r : β} (K : Nat) (h : ∀ k, K < k → g k = some r) : Ev g r := ⟨K + 1, fun k hk => h k (by omega)⟩
theorem Ev.val {β : Type} {g : Nat → Option β} {r : β} (h : ∀ k, g k = some r) : Ev g r := ⟨0, fun k _ => h k⟩
theorem rd_eq (l : List Int) (i : Nat) (h : i < l.length) : rd l (i : Int) = l[i] := by
  unfold rd; simp [h]
theorem rdG_eq (l : List Game) (i : Nat) (h : i < l.length) : rd_T75 l (i : Int) = l[i] := by
  unfold rd_T75; simp [h]
theorem wrap_succ (i : Nat) (h : i < 4611686018427387904) : wrap64 ((i : Int) + 1) = ((i + 1 : Nat) : Int) := by unfold wrap64; omega
def indexI (l : List Int) (x : Int) : Int := idxI (fun y => decide (x = y)) l
theorem index_eq (l : List Int) (x : Int) (hl : l.length ≤ 2305843009213693952) (k : Nat) (hk : l.length < k) : slices_Index_int_int.f k l x = some (indexI l x) := by
  have key : ∀ (d i : Nat), l.length - i = d → i ≤ l.length → ∀ k, d < k → slices_Index_int_int.l0 k l x l.length i = some (if idxI (fun y => decide (x = y)) (l.drop i) < 0 then -1 else idxI (fun y => decide (x = y)) (l.drop i) + i) := by
    intro d
    induction d with
    | zero =>
      intro i hd hi k hk
      obtain ⟨k, rfl⟩ : ∃ m, k = m + 1 := ⟨k - 1, by omega⟩
      simp only [slices_Index_int_int.l0]
      rw [if_neg (by omega), List.drop_eq_nil_of_le (by omega)]
      rfl
    | succ d ih =>
      intro i hd hi k hk
      obtain ⟨k, rfl⟩ : ∃ m, k = m + 1 := ⟨k - 1, by omega⟩
      have hlt : i < l.length := by omega
      have := ih (i + 1) (by omega) (by omega) k (by omega)
      simp only [slices_Index_int_int.l0]
      rw [if_pos (by omega), if_pos (by omega), if_pos (by omega), rd_eq l i hlt, wrap_succ i (by omega), this, List.drop_eq_getElem_cons hlt]
      simp only [idxI]
      grind
  unfold slices_Index_int_int.f indexI
  have := key l.length 0 (by omega) (by omega) k hk
  rw [List.drop_zero] at this
  have h2 := idxI_any (fun y => decide (x = y)) l
  refine Eq.trans this ?_
  congr 1
  by_cases h : idxI (fun y => decide (x = y)) l < 0
  · rw [if_pos h]
    have : ∀ l : List Int, idxI (fun y => decide (x = y)) l = -1 ∨ 0 ≤ idxI (fun y => decide (x = y)) l := by
      intro l
      induction l with
      | nil => exact .inl rfl
      | cons y l ih => simp only [idxI]; grind
    rcases this l with h3 | h3
    · exact h3.symm
    · omega
  · rw [if_neg h]; simp
def hasI (l : List Int) (x : Int) : Bool := l.any fun y => decide (x = y)
theorem contains_eq (l : List Int) (x : Int) (hl : l.length ≤ 2305843009213693952) (k : Nat) (hk : l.length < k) : slices_Contains_int_int.f k l x = some (hasI l x) := by
  unfold slices_Contains_int_int.f hasI
  rw [index_eq l x hl k hk, ← idxI_any]
  rfl
theorem isKey_eq (x : Int) : impl_isKey.f x = some (withinB x 1 8) := by unfold impl_isKey.f; rw [within_eq]; rfl
def ladderFrom : List Int → List Int → Bool
  | _, [] => true
  | pre, k :: l => withinB k 1 8 && !hasI pre k && ladderFrom (pre ++ [k]) l
def rulesOkB (win draw loss : Int) (ladder : List Int) : Bool := ladderFrom [] ladder && decide (0 ≤ loss) && decide (loss ≤ draw) && decide (draw ≤ win) && decide (win ≤ 10) && withinB ladder.length 1 8
theorem rulesOk_eq (win draw loss : Int) (l : List Int) (again : Bool) (hl : l.length ≤ 2305843009213693952) (k : Nat) (hk : 2 * l.length + 2 < k) : impl_RulesOk.f k win draw loss l again = some (rulesOkB win draw loss l) := by
  have key : ∀ (d i : Nat), l.length - i = d → i ≤ l.length → ∀ k, l.length + d + 1 < k → impl_RulesOk.l0 k l l.length i win draw loss l again = some (ladderFrom (l.take i) (l.drop i) && decide (0 ≤ loss) && decide (loss ≤ draw) && decide (draw ≤ win) && decide (win ≤ 10) && withinB l.length 1 8) := by
    intro d
    induction d with
    | zero =>
      intro i hd hi k hk
      obtain ⟨k, rfl⟩ : ∃ m, k = m + 1 := ⟨k - 1, by omega⟩
      simp only [impl_RulesOk.l0]
      rw [if_neg (by omega), List.drop_eq_nil_of_le (by omega), ladderFrom, within_eq]
      simp only [Option.bind_some]
      grind
    | succ d ih =>
      intro i hd hi k hk
      obtain ⟨k, rfl⟩ : ∃ m, k = m + 1 := ⟨k - 1, by omega⟩
      have hlt : i < l.length := by omega
      have := ih (i + 1) (by omega) (by omega) k (by omega)
      simp only [impl_RulesOk.l0]
      rw [if_pos (by omega), if_pos (by omega), if_pos (by omega), rd_eq l i hlt, wrap_succ i (by omega), this, List.drop_eq_getElem_cons hlt, isKey_eq, Int.toNat_natCast, contains_eq _ _ (by rw [List.length_take]; omega) k (by rw [List.length_take]; omega)]
      simp only [Option.bind_some, ladderFrom]
      rw [if_pos (show (i : Int) ≤ l.length by omega), List.take_succ_eq_append_getElem hlt]
      cases withinB l[i] 1 8 <;> cases hasI (l.take i) l[i] <;> simp
  unfold impl_RulesOk.f rulesOkB
  have := key l.length 0 (by omega) (by omega) k (by omega)
  simpa using this
def gameOkB (n : Int) (g : Game) : Bool := withinB n 2 8 && !decide (g.f0 = g.f1) && withinB g.f0 0 (n - 1) && withinB g.f1 0 (n - 1) && withinB g.f4 0 4 && withinB g.f2 0 (if g.f4 = 1 then 99 else 0) && withinB g.f3 0 (if g.f4 = 1 then 99 else 0)
theorem gameOk_eq (n : Int) (g : Game) (k : Nat) (hk : 0 < k) : impl_GameOk.f k n g.f0 g.f1 g.f2 g.f3 g.f4 = some (gameOkB n g) := by
  obtain ⟨k, rfl⟩ : ∃ m, k = m + 1 := ⟨k - 1, by omega⟩
  have hw : withinB n 2 8 = true → wrap64 (n - 1) = n - 1 := by
    intro h
    simp [withinB] at h
    unfold wrap64; omega
  have key : ∀ most : Int, impl_GameOk.j0 (k + 1) n most g.f0 g.f1 g.f2 g.f3 g.f4 = some (withinB n 2 8 && !decide (g.f0 = g.f1) && withinB g.f0 0 (n - 1) && withinB g.f1 0 (n - 1) && withinB g.f4 0 4 && withinB g.f2 0 most && withinB g.f3 0 most) := by
    intro most
    simp only [impl_GameOk.j0, within_eq, Option.bind_some]
    cases h : withinB n 2 8 with
    | false => simp
    | true =>
      rw [hw h]
      by_cases h1 : g.f0 = g.f1 <;> simp [h1] <;> grind
  unfold impl_GameOk.f gameOkB
  by_cases h : g.f4 = 1
  · rw [if_pos h, key, if_pos h]
  · rw [if_neg h, key, if_neg h]
def seasonFrom (n : Int) : List Game → List Game → Bool
  | _, [] => true
  | pre, g :: l => gameOkB n g && !pre.any (gameIs g.f0 g.f1) && seasonFrom n (pre ++ [g]) l
def seasonOkB (n : Int) (l : List Game) : Bool := seasonFrom n [] l && decide ((l.length : Int) ≤ 60)
theorem seasonOk_eq (n : Int) (l : List Game) (hl : l.length ≤ 2305843009213693952) (k : Nat) (hk : l.length + 2 < k) : impl_SeasonOk.f k n l = some (seasonOkB n l) := by
  have key : ∀ (d i : Nat), l.length - i = d → i ≤ l.length → ∀ k, d + 1 < k → impl_SeasonOk.l0 k n l l l.length i = some (seasonFrom n (l.take i) (l.drop i) && decide ((l.length : Int) ≤ 60)) := by
    intro d
    induction d with
    | zero =>
      intro i hd hi k hk
      obtain ⟨k, rfl⟩ : ∃ m, k = m + 1 := ⟨k - 1, by omega⟩
      simp only [impl_SeasonOk.l0]
      rw [if_neg (by omega), List.drop_eq_nil_of_le (by omega), seasonFrom]
      rfl
    | succ d ih =>
      intro i hd hi k hk
      obtain ⟨k, rfl⟩ : ∃ m, k = m + 1 := ⟨k - 1, by omega⟩
      have hlt : i < l.length := by omega
      have := ih (i + 1) (by omega) (by omega) k (by omega)
      simp only [impl_SeasonOk.l0]
      rw [if_pos (by omega), if_pos (by omega), if_pos (by omega), rdG_eq l i hlt, wrap_succ i (by omega), this, List.drop_eq_getElem_cons hlt, gameOk_eq _ _ k (by omega), Int.toNat_natCast]
      simp only [Option.bind_some, seasonFrom, impl_GameOf.f]
      rw [if_pos (show (i : Int) ≤ l.length by omega), List.take_succ_eq_append_getElem hlt, ← idxI_any]
      by_cases h2 : idxI (gameIs l[i].f0 l[i].f1) (l.take i) ≥ 0
      · rw [if_pos h2, decide_eq_true (show 0 ≤ idxI (gameIs l[i].f0 l[i].f1) (l.take i) from h2)]
        cases gameOkB n l[i] <;> simp
      · rw [if_neg h2, decide_eq_false (show ¬ 0 ≤ idxI (gameIs l[i].f0 l[i].f1) (l.take i) from h2)]
        cases gameOkB n l[i] <;> simp
  unfold impl_SeasonOk.f seasonOkB
  have := key l.length 0 (by omega) (by omega) k (by omega)
  simpa using this
def penaltiesB (l : List Int) (n : Int) : Bool := decide ((l.length : Int) = n) && !l.any (fun x => !withinB x 0 1000)
def bookOkB (field : List Team) (win draw loss : Int) (ladder : List Int) (games : List Game) (fair taken : List Int) : Bool :=
  fieldOkB field && rulesOkB win draw loss ladder && seasonOkB field.length games && penaltiesB fair field.length && penaltiesB taken field.length
def Sized (field : List Team) (ladder : List Int) (games : List Game) : Prop :=
  (∀ t, t ∈ field → t.f0.size ≤ 4611686018427387904) ∧ ladder.length ≤ 1099511627776 ∧ games.length ≤ 1099511627776
theorem fieldOk_eq (field : List Team) (h : ∀ t, t ∈ field → t.f0.size ≤ 4611686018427387904) : impl_FieldOk.f field = some (fieldOkB field) := by
  unfold impl_FieldOk.f
  rw [if_pos]
  rw [List.all_eq_true]
  intro t ht
  exact decide_eq_true (h t ht)
theorem bookOk_eq (field : List Team) (win draw loss : Int) (ladder : List Int) (again : Bool) (games : List Game) (fair taken : List Int) (hs : Sized field ladder games) (k : Nat) (hk : 2 * ladder.length + games.length + 2 < k) :
    impl_BookOk.f k field win draw loss ladder again games fair taken = some (bookOkB field win draw loss ladder games fair taken) := by
  obtain ⟨h1, h2, h3⟩ := hs
  unfold impl_BookOk.f bookOkB
  rw [fieldOk_eq field h1, rulesOk_eq _ _ _ _ _ (by omega) k (by omega), seasonOk_eq _ _ (by omega) k (by omega)]
  simp only [Option.bind_some, impl_arePenalties.f, penaltiesB]
  cases fieldOkB field <;> cases rulesOkB win draw loss ladder <;> cases seasonOkB field.length games <;> simp
  grind
end Go.Proofs.Ytoaepoffooomnaa.Q
namespace Go.Proofs.Ytoaepoffooomnaa.Q
open Go.RowKit Go.Proofs.YtoaepoffooomnaaW.PrintWords Go.Proofs.YtoaepoffooomnaaW.PrintLast Go.Proofs.YtoaepoffooomnaaW.PrintMore
def mk (l : List UInt8) : ByteArray := ⟨l.toArray⟩
theorem mk_append (a b : List UInt8) : mk a ++ mk b = mk (a ++ b) := by
  apply ByteArray.ext
  simp [mk]
theorem mk_size (l : List UInt8) : (mk l).size = l.length := by simp [mk, ByteArray.size]
theorem strOfNums_mk (l : List Int) : strOfNums l = mk (l.map fun n => UInt8.ofNat n.toNat) := rfl
theorem set_next {α β : Type} (f : α → β) (z : β) (l : List α) (i : Nat) (h : i < l.length) (y : β) (hy : y = f l[i]) : ((l.take i).map f ++ List.replicate (l.length - i) z).set i y = (l.take (i + 1)).map f ++ List.replicate (l.length - (i + 1)) z := by
  rw [List.set_append, if_neg (by rw [List.length_map, List.length_take]; omega), List.take_succ_eq_append_getElem h, show l.length - i = (l.length - (i + 1)) + 1 by omega, List.replicate_succ, List.length_map, List.length_take, Nat.min_eq_left (by omega), Nat.sub_self, List.set_cons_zero, List.map_append, List.append_assoc, hy]
  rfl
theorem markText_l0 (m : Nat) : ∀ (x : Int) (s : List UInt8), 0 ≤ x → x.toNat < 10 ^ m → x ≤ 9223372036854775807 → s.length + m ≤ 1000 → ∃ t, ∀ k, laws_markText.l0 (k + m + 1) x (mk s) = some t := by
  induction m with
  | zero =>
    intro x s h0 h1 h2 hs
    have hx : x = 0 := by simp at h1; omega
    subst hx
    exact ⟨_, fun k => by rw [show k + 0 + 1 = k + 1 by omega, laws_markText.l0, if_neg (by decide), mk_size, if_pos (by omega)]⟩
  | succ m ih =>
    intro x s h0 h1 h2 hs
    by_cases hx : x > 0
    · have h10 : Int.tdiv x 10 = x / 10 := Int.tdiv_eq_ediv_of_nonneg h0
      have hlt : (x / 10).toNat < 10 ^ m := by
        have : x.toNat < 10 * 10 ^ m := by rw [Nat.pow_succ] at h1; omega
        omega
      obtain ⟨t, ht⟩ := ih (x / 10) ((([(wrap64 (48 + (Int.tmod x 10))) % 256] : List Int).map fun n => UInt8.ofNat n.toNat) ++ s) (by omega) hlt (by omega) (by simp; omega)
      refine ⟨t, fun k => ?_⟩
      rw [show k + (m + 1) + 1 = (k + m + 1) + 1 by omega, laws_markText.l0, if_pos hx, Option.bind_some, strOfNums_mk, mk_size, mk_size, if_pos (by simp; omega), mk_append, h10, wrap_id (x / 10) (by omega) (by omega)]
      exact ht k
    · have hx0 : x = 0 := by omega
      subst hx0
      exact ⟨_, fun k => by rw [show k + (m + 1) + 1 = (k + m + 1) + 1 by omega, laws_markText.l0, if_neg (by decide), mk_size, if_pos (by omega)]⟩
theorem markText_ex (x : Int) : ∃ t, 0 < x → x ≤ 1000000000 → Ev (fun k => laws_markText.f k x) t := by
  by_cases h : 0 < x ∧ x ≤ 1000000000
  · obtain ⟨t, ht⟩ := markText_l0 10 x [] (by omega) (by omega) (by omega) (by simp)
    refine ⟨t, fun _ _ => ⟨11, fun k hk => ?_⟩⟩
    have := ht (k - 11)
    rw [show k - 11 + 10 + 1 = k by omega] at this
    show laws_markText.f k x = some t
    unfold laws_markText.f
    rw [if_neg (by omega)]
    exact this
  · exact ⟨mk [], fun h1 h2 => absurd ⟨h1, h2⟩ h⟩
noncomputable def markT (x : Int) : ByteArray := (markText_ex x).choose
theorem markT_ev {x : Int} (h0 : 0 < x) (h1 : x ≤ 1000000000) : Ev (fun k => laws_markText.f k x) (markT x) := (markText_ex x).choose_spec h0 h1
theorem toInt_ev (l : List Int) (hl : l.length ≤ 1048576) : Ev (fun k => laws_toIntS.f k l) l := by
  have h : ∀ i, i ≤ l.length → Ev (fun k => laws_toIntS.l0 k l ((l.take i).map id ++ List.replicate (l.length - i) 0) (i : Int)) l := by
    intro i hi
    obtain ⟨d, hd⟩ : ∃ d, i + d = l.length := ⟨l.length - i, by omega⟩
    induction d generalizing i with
    | zero =>
      obtain rfl : i = l.length := by omega
      exact Ev.step (f := fun _ => some l) (fun k => by rw [laws_toIntS.l0, if_neg (by omega), List.take_length, Nat.sub_self]; simp) (Ev.now _)
    | succ d ih =>
      have hlt : i < l.length := by omega
      refine Ev.step (fun k => ?_) (ih (i + 1) (by omega) (by omega))
      rw [laws_toIntS.l0, if_pos (by omega), if_pos (by omega), rd_eq l i hlt, if_pos (by simp; omega), wrap_succ i (by omega), Int.toNat_natCast, set_next id 0 l i hlt l[i] rfl]
  refine Ev.congr (fun k => ?_) (h 0 (by omega))
  unfold laws_toIntS.f
  rw [if_pos (by omega), if_pos (by omega)]
  rfl
theorem eqInt_ev (l : List Int) (hl : l.length ≤ 1048576) : Ev (fun k => laws_eqIntS.f k l l) true := by
  refine Ev.loop l.length (fun i k => laws_eqIntS.l0 k l l (i : Int)) (fun _ => true) (fun k => by unfold laws_eqIntS.f; rw [if_pos rfl]; rfl) rfl ?_ ?_
  · exact Ev.step (f := fun _ => some true) (fun k => by rw [laws_eqIntS.l0, if_neg (by omega)]) (Ev.now _)
  · intro i hi h
    exact Ev.step (fun k => by rw [laws_eqIntS.l0, if_pos (by omega), if_pos (by omega), if_pos (by omega), if_pos rfl, wrap_succ i (by omega)]) h
def marksI (n : Nat) (a : Int) : List Int := (List.range n).map fun (j : Nat) => a + j
theorem marksI_len (n : Nat) (a : Int) : (marksI n a).length = n := by simp [marksI]
theorem marksI_succ (n : Nat) (a : Int) : marksI (n + 1) a = marksI n a ++ [a + n] := by simp [marksI, List.range_succ]
theorem marks_set {α : Type} (f : Nat → List α) (x : Nat → α) (hf : ∀ i, (f i).length = i) (hs : ∀ i, f (i + 1) = f i ++ [x i]) (l : List α) (i : Nat) (h : i < l.length) : (f i ++ l.drop i).set i (x i) = f (i + 1) ++ l.drop (i + 1) := by
  rw [List.set_append, if_neg (by rw [hf]; omega), hf, Nat.sub_self, List.drop_eq_getElem_cons h, List.set_cons_zero, hs, List.append_assoc]
  rfl
theorem marks_len {α : Type} (f : Nat → List α) (hf : ∀ i, (f i).length = i) (l : List α) (i : Nat) (h : i ≤ l.length) : (f i ++ l.drop i).length = l.length := by
  rw [List.length_append, hf, List.length_drop]; omega
theorem add_zero_cast (a : Int) : a + ((0 : Nat) : Int) = a := by omega
theorem markInt_ev (l : List Int) (a : Int) (h0 : 0 ≤ a) (hl : a + l.length ≤ 1000000000) : Ev (fun k => laws_markIntS.f k l a) (a + l.length, marksI l.length a) := by
  have hf := fun i => marksI_len i a
  refine Ev.loop l.length (fun i k => laws_markIntS.l0 k (marksI i a ++ l.drop i) (a + i) (i : Int)) (fun _ => (a + l.length, marksI l.length a)) (fun k => by rw [add_zero_cast]; rfl) rfl ?_ ?_
  · exact Ev.step (f := fun _ => some (a + l.length, marksI l.length a)) (fun k => by rw [laws_markIntS.l0, if_neg (by rw [marks_len _ hf l _ (Nat.le_refl _)]; omega), List.drop_length, List.append_nil]) (Ev.now _)
  · intro i hi h
    refine Ev.step (fun k => ?_) h
    rw [laws_markIntS.l0, if_pos (by rw [marks_len _ hf l i (by omega)]; omega), if_pos (by omega), Int.toNat_natCast, marks_set (fun i => marksI i a) (fun i => a + (i : Int)) hf (fun i => marksI_succ i a) l i hi, wrap_succ i (by omega), wrap_id _ (by omega) (by omega)]
    congr 1
    omega
theorem marksI_get (n : Nat) (a : Int) (i : Nat) (h : i < n) : (marksI n a)[i]'(by rw [marksI_len]; exact h) = a + i := by simp [marksI]
theorem heldInt_ev (n : Nat) (a : Int) (h0 : 0 ≤ a) (hl : a + n ≤ 1000000000) : Ev (fun k => laws_heldIntS.f k (marksI n a) a) (a + n) := by
  refine Ev.loop n (fun i k => laws_heldIntS.l0 k (marksI n a) (a + i) (i : Int)) (fun _ => a + n) (fun k => by rw [add_zero_cast]; rfl) rfl ?_ ?_
  · exact Ev.step (f := fun _ => some (a + n)) (fun k => by rw [laws_heldIntS.l0, if_neg (by rw [marksI_len]; omega)]) (Ev.now _)
  · intro i hi h
    refine Ev.step (fun k => ?_) h
    rw [laws_heldIntS.l0, if_pos (by rw [marksI_len]; omega), if_pos (by omega), rd_eq _ i (by rw [marksI_len]; omega), marksI_get n a i hi, if_pos rfl, wrap_succ i (by omega), wrap_id _ (by omega) (by omega)]
    congr 1
    omega
theorem szInt_eq (r : List Int) (x : Int) (h0 : 0 ≤ x) (h1 : x ≤ 1048576) (hr : r.length ≤ 9223372036854775807) : laws_szIntS.f r x = some (if x - r.length < 0 then -1 else x - r.length) := by
  unfold laws_szIntS.f
  rw [wrap_id _ (by omega) (by omega)]
  split <;> rfl
abbrev TeamA := S84
abbrev GameA := S90
def convT (x : TeamA) : Team := ⟨x.f0, x.f1, x.f2⟩
def convG (x : GameA) : Game := ⟨x.f0, x.f1, x.f2, x.f3, x.f4⟩
theorem rdTA_eq (l : List TeamA) (i : Nat) (h : i < l.length) : rd_T84 l (i : Int) = l[i] := by
  unfold rd_T84; simp [h]
theorem rdGA_eq (l : List GameA) (i : Nat) (h : i < l.length) : rd_T90 l (i : Int) = l[i] := by
  unfold rd_T90; simp [h]
theorem rdT_eq (l : List Team) (i : Nat) (h : i < l.length) : rd_T87 l (i : Int) = l[i] := by
  unfold rd_T87; simp [h]
theorem rdT_set (l : List Team) (i : Nat) (y : Team) (h : i < l.length) : rd_T87 (l.set i y) (i : Int) = y := by
  rw [rdT_eq _ i (by simpa using h)]; simp
theorem rdG_set (l : List Game) (i : Nat) (y : Game) (h : i < l.length) : rd_T75 (l.set i y) (i : Int) = y := by
  rw [rdG_eq _ i (by simpa using h)]; simp
theorem toTeam_ev (l : List TeamA) (hl : l.length ≤ 1048576) : Ev (fun k => laws_toTeamS.f k l) (l.map convT) := by
  refine Ev.loop l.length (fun i k => laws_toTeamS.l0 k l ((l.take i).map convT ++ List.replicate (l.length - i) z87) (i : Int)) (fun _ => l.map convT) (fun k => by unfold laws_toTeamS.f; rw [if_pos (by omega), if_pos (by omega)]; rfl) rfl ?_ ?_
  · exact Ev.step (f := fun _ => some (l.map convT)) (fun k => by rw [laws_toTeamS.l0, if_neg (by omega), List.take_length, Nat.sub_self]; simp) (Ev.now _)
  · intro i hi h
    refine Ev.step (fun k => ?_) h
    rw [laws_toTeamS.l0, if_pos (by omega), if_pos (by omega), rdTA_eq l i hi, laws_toTeam.f, Option.bind_some, if_pos (by simp; omega), wrap_succ i (by omega), Int.toNat_natCast, set_next convT z87 l i hi ⟨l[i].f0, l[i].f1, l[i].f2⟩ rfl]
theorem toGame_ev (l : List GameA) (hl : l.length ≤ 1048576) : Ev (fun k => laws_toGameS.f k l) (l.map convG) := by
  refine Ev.loop l.length (fun i k => laws_toGameS.l0 k l ((l.take i).map convG ++ List.replicate (l.length - i) z75) (i : Int)) (fun _ => l.map convG) (fun k => by unfold laws_toGameS.f; rw [if_pos (by omega), if_pos (by omega)]; rfl) rfl ?_ ?_
  · exact Ev.step (f := fun _ => some (l.map convG)) (fun k => by rw [laws_toGameS.l0, if_neg (by omega), List.take_length, Nat.sub_self]; simp) (Ev.now _)
  · intro i hi h
    refine Ev.step (fun k => ?_) h
    rw [laws_toGameS.l0, if_pos (by omega), if_pos (by omega), rdGA_eq l i hi, laws_toGame.f, Option.bind_some, if_pos (by simp; omega), wrap_succ i (by omega), Int.toNat_natCast, set_next convG z75 l i hi ⟨l[i].f0, l[i].f1, l[i].f2, l[i].f3, l[i].f4⟩ rfl]
theorem eqTeam_ev (l : List Team) (hl : l.length ≤ 1048576) : Ev (fun k => laws_eqTeamS.f k l l) true := by
  refine Ev.loop l.length (fun i k => laws_eqTeamS.l0 k l l (i : Int)) (fun _ => true) (fun k => by unfold laws_eqTeamS.f; rw [if_pos rfl]; rfl) rfl ?_ ?_
  · exact Ev.step (f := fun _ => some true) (fun k => by rw [laws_eqTeamS.l0, if_neg (by omega)]) (Ev.now _)
  · intro i hi h
    exact Ev.step (fun k => by rw [laws_eqTeamS.l0, if_pos (by omega), if_pos (by omega), if_pos (by omega), laws_eqTeam.f, if_pos rfl, if_pos rfl, if_pos rfl, Option.bind_some, if_pos rfl, wrap_succ i (by omega)]) h
theorem eqGame_ev (l : List Game) (hl : l.length ≤ 1048576) : Ev (fun k => laws_eqGameS.f k l l) true := by
  refine Ev.loop l.length (fun i k => laws_eqGameS.l0 k l l (i : Int)) (fun _ => true) (fun k => by unfold laws_eqGameS.f; rw [if_pos rfl]; rfl) rfl ?_ ?_
  · exact Ev.step (f := fun _ => some true) (fun k => by rw [laws_eqGameS.l0, if_neg (by omega)]) (Ev.now _)
  · intro i hi h
    exact Ev.step (fun k => by rw [laws_eqGameS.l0, if_pos (by omega), if_pos (by omega), if_pos (by omega), laws_eqGame.f, if_pos rfl, if_pos rfl, if_pos rfl, if_pos rfl, if_pos rfl, Option.bind_some, if_pos rfl, wrap_succ i (by omega)]) h
noncomputable def markTm (a : Int) : Team := ⟨markT a, a + 1, a + 2⟩
noncomputable def marksTm (n : Nat) (a : Int) : List Team := (List.range n).map fun (j : Nat) => markTm (a + 3 * j)
theorem marksTm_len (n : Nat) (a : Int) : (marksTm n a).length = n := by simp [marksTm]
theorem marksTm_succ (n : Nat) (a : Int) : marksTm (n + 1) a = marksTm n a ++ [markTm (a + 3 * n)] := by simp [marksTm, List.range_succ]
def markGm (a : Int) : Game := ⟨a, a + 1, a + 2, a + 3, a + 4⟩
def marksGm (n : Nat) (a : Int) : List Game := (List.range n).map fun (j : Nat) => markGm (a + 5 * j)
theorem marksGm_len (n : Nat) (a : Int) : (marksGm n a).length = n := by simp [marksGm]
theorem marksGm_succ (n : Nat) (a : Int) : marksGm (n + 1) a = marksGm n a ++ [markGm (a + 5 * n)] := by simp [marksGm, List.range_succ]
theorem mul_zero_cast (a c : Int) : a + c * ((0 : Nat) : Int) = a := by simp
theorem markTeam_ev (l : List Team) (a : Int) (h0 : 0 < a) (hl : a + 3 * l.length ≤ 1000000000) : Ev (fun k => laws_markTeamS.f k l a) (a + 3 * l.length, marksTm l.length a) := by
  have hf := fun i => marksTm_len i a
  refine Ev.loop l.length (fun i k => laws_markTeamS.l0 k (marksTm i a ++ l.drop i) (a + 3 * i) (i : Int)) (fun _ => (a + 3 * l.length, marksTm l.length a)) (fun k => by rw [mul_zero_cast]; rfl) rfl ?_ ?_
  · exact Ev.step (f := fun _ => some (a + 3 * l.length, marksTm l.length a)) (fun k => by rw [laws_markTeamS.l0, if_neg (by rw [marks_len _ hf l _ (Nat.le_refl _)]; omega), List.drop_length, List.append_nil]) (Ev.now _)
  · intro i hi h
    have hlen := marks_len _ hf l i (by omega)
    have hs := marks_set (fun i => marksTm i a) (fun i => markTm (a + 3 * (i : Int))) hf (fun i => marksTm_succ i a) l i hi
    have w1 : wrap64 (a + 3 * (i : Int) + 1) = a + 3 * i + 1 := wrap_id _ (by omega) (by omega)
    have w2 : wrap64 (a + 3 * (i : Int) + 1 + 1) = a + 3 * i + 2 := by rw [wrap_id _ (by omega) (by omega)]; omega
    have w3 : wrap64 (a + 3 * (i : Int) + 2 + 1) = a + 3 * ((i + 1 : Nat) : Int) := by rw [wrap_id _ (by omega) (by omega)]; omega
    refine Ev.step (f := fun k => (laws_markText.f k (a + 3 * (i : Int))).bind fun t => laws_markTeamS.l0 k ((marksTm i a ++ l.drop i).set i ⟨t, a + 3 * i + 1, a + 3 * i + 2⟩) (a + 3 * ((i + 1 : Nat) : Int)) ((i + 1 : Nat) : Int)) (fun k => ?_) (Ev.bind (markT_ev (by omega) (by omega)) ?_)
    · have hlt : i < (marksTm i a ++ l.drop i).length := by rw [hlen]; exact hi
      have h00 : (0 : Int) ≤ (i : Int) := by omega
      rw [laws_markTeamS.l0, if_pos (by rw [hlen]; omega)]
      congr 1
      funext t
      generalize marksTm i a ++ l.drop i = L at hlt
      simp only [if_pos h00, Option.bind_some, Int.toNat_natCast, w1, w2, w3, wrap_succ i (show i < 4611686018427387904 by omega), rdT_set _ _ _ hlt, List.set_set]
    · exact (show (marksTm i a ++ l.drop i).set i (markTm (a + 3 * (i : Int))) = _ from hs) ▸ h
theorem markGame_ev (l : List Game) (a : Int) (h0 : 0 < a) (hl : a + 5 * l.length ≤ 1000000000) : Ev (fun k => laws_markGameS.f k l a) (a + 5 * l.length, marksGm l.length a) := by
  have hf := fun i => marksGm_len i a
  refine Ev.loop l.length (fun i k => laws_markGameS.l0 k (marksGm i a ++ l.drop i) (a + 5 * i) (i : Int)) (fun _ => (a + 5 * l.length, marksGm l.length a)) (fun k => by rw [mul_zero_cast]; rfl) rfl ?_ ?_
  · exact Ev.step (f := fun _ => some (a + 5 * l.length, marksGm l.length a)) (fun k => by rw [laws_markGameS.l0, if_neg (by rw [marks_len _ hf l _ (Nat.le_refl _)]; omega), List.drop_length, List.append_nil]) (Ev.now _)
  · intro i hi h
    have hlen := marks_len _ hf l i (by omega)
    have hs := marks_set (fun i => marksGm i a) (fun i => markGm (a + 5 * (i : Int))) hf (fun i => marksGm_succ i a) l i hi
    have w1 : wrap64 (a + 5 * (i : Int) + 1) = a + 5 * i + 1 := wrap_id _ (by omega) (by omega)
    have w2 : wrap64 (a + 5 * (i : Int) + 1 + 1) = a + 5 * i + 2 := by rw [wrap_id _ (by omega) (by omega)]; omega
    have w3 : wrap64 (a + 5 * (i : Int) + 2 + 1) = a + 5 * i + 3 := by rw [wrap_id _ (by omega) (by omega)]; omega
    have w4 : wrap64 (a + 5 * (i : Int) + 3 + 1) = a + 5 * i + 4 := by rw [wrap_id _ (by omega) (by omega)]; omega
    have w5 : wrap64 (a + 5 * (i : Int) + 4 + 1) = a + 5 * ((i + 1 : Nat) : Int) := by rw [wrap_id _ (by omega) (by omega)]; omega
    refine Ev.step (f := fun k => laws_markGameS.l0 k ((marksGm i a ++ l.drop i).set i ⟨a + 5 * i, a + 5 * i + 1, a + 5 * i + 2, a + 5 * i + 3, a + 5 * i + 4⟩) (a + 5 * ((i + 1 : Nat) : Int)) ((i + 1 : Nat) : Int)) (fun k => ?_) ?_
    · have hlt : i < (marksGm i a ++ l.drop i).length := by rw [hlen]; exact hi
      have h00 : (0 : Int) ≤ (i : Int) := by omega
      rw [laws_markGameS.l0, if_pos (by rw [hlen]; omega)]
      generalize marksGm i a ++ l.drop i = L at hlt
      simp only [if_pos h00, Option.bind_some, Int.toNat_natCast, w1, w2, w3, w4, w5, wrap_succ i (show i < 4611686018427387904 by omega), rdG_set _ _ _ hlt, List.set_set]
    · exact (show (marksGm i a ++ l.drop i).set i (markGm (a + 5 * (i : Int))) = _ from hs) ▸ h
theorem marksTm_get (n : Nat) (a : Int) (i : Nat) (h : i < n) : (marksTm n a)[i]'(by rw [marksTm_len]; exact h) = markTm (a + 3 * i) := by simp [marksTm]
theorem marksGm_get (n : Nat) (a : Int) (i : Nat) (h : i < n) : (marksGm n a)[i]'(by rw [marksGm_len]; exact h) = markGm (a + 5 * i) := by simp [marksGm]
theorem heldTeam_ev (n : Nat) (a : Int) (h0 : 0 < a) (hl : a + 3 * n ≤ 1000000000) : Ev (fun k => laws_heldTeamS.f k (marksTm n a) a) (a + 3 * n) := by
  refine Ev.loop n (fun i k => laws_heldTeamS.l0 k (marksTm n a) (a + 3 * i) (i : Int)) (fun _ => a + 3 * n) (fun k => by rw [mul_zero_cast]; rfl) rfl ?_ ?_
  · exact Ev.step (f := fun _ => some (a + 3 * n)) (fun k => by rw [laws_heldTeamS.l0, if_neg (by rw [marksTm_len]; omega)]) (Ev.now _)
  · intro i hi h
    have w1 : wrap64 (a + 3 * (i : Int) + 1) = a + 3 * i + 1 := wrap_id _ (by omega) (by omega)
    have w2 : wrap64 (a + 3 * (i : Int) + 1 + 1) = a + 3 * i + 2 := by rw [wrap_id _ (by omega) (by omega)]; omega
    have w3 : wrap64 (a + 3 * (i : Int) + 2 + 1) = a + 3 * ((i + 1 : Nat) : Int) := by rw [wrap_id _ (by omega) (by omega)]; omega
    refine Ev.step (f := fun k => (laws_markText.f k (a + 3 * (i : Int))).bind fun t => if (markT (a + 3 * (i : Int))).toList = t.toList then laws_heldTeamS.l0 k (marksTm n a) (a + 3 * ((i + 1 : Nat) : Int)) ((i + 1 : Nat) : Int) else some (-1)) (fun k => ?_) (Ev.bind (markT_ev (by omega) (by omega)) (Ev.congr (fun k => by rw [if_pos rfl]) h))
    rw [laws_heldTeamS.l0, if_pos (by rw [marksTm_len]; omega), if_pos (by omega), rdT_eq _ i (by rw [marksTm_len]; omega), marksTm_get n a i hi]
    simp only [markTm, w1, w2, w3, if_true, wrap_succ i (show i < 4611686018427387904 by omega)]
theorem heldGame_ev (n : Nat) (a : Int) (h0 : 0 < a) (hl : a + 5 * n ≤ 1000000000) : Ev (fun k => laws_heldGameS.f k (marksGm n a) a) (a + 5 * n) := by
  refine Ev.loop n (fun i k => laws_heldGameS.l0 k (marksGm n a) (a + 5 * i) (i : Int)) (fun _ => a + 5 * n) (fun k => by rw [mul_zero_cast]; rfl) rfl ?_ ?_
  · exact Ev.step (f := fun _ => some (a + 5 * n)) (fun k => by rw [laws_heldGameS.l0, if_neg (by rw [marksGm_len]; omega)]) (Ev.now _)
  · intro i hi h
    have w1 : wrap64 (a + 5 * (i : Int) + 1) = a + 5 * i + 1 := wrap_id _ (by omega) (by omega)
    have w2 : wrap64 (a + 5 * (i : Int) + 1 + 1) = a + 5 * i + 2 := by rw [wrap_id _ (by omega) (by omega)]; omega
    have w3 : wrap64 (a + 5 * (i : Int) + 2 + 1) = a + 5 * i + 3 := by rw [wrap_id _ (by omega) (by omega)]; omega
    have w4 : wrap64 (a + 5 * (i : Int) + 3 + 1) = a + 5 * i + 4 := by rw [wrap_id _ (by omega) (by omega)]; omega
    have w5 : wrap64 (a + 5 * (i : Int) + 4 + 1) = a + 5 * ((i + 1 : Nat) : Int) := by rw [wrap_id _ (by omega) (by omega)]; omega
    refine Ev.step (fun k => ?_) h
    rw [laws_heldGameS.l0, if_pos (by rw [marksGm_len]; omega), if_pos (by omega), rdG_eq _ i (by rw [marksGm_len]; omega), marksGm_get n a i hi]
    simp only [markGm, w1, w2, w3, w4, w5, if_true, wrap_succ i (show i < 4611686018427387904 by omega)]
end Go.Proofs.Ytoaepoffooomnaa.Q
namespace Go.Proofs.Ytoaepoffooomnaa.Q
open Go.RowKit Go.Proofs.YtoaepoffooomnaaW.PrintWords Go.Proofs.YtoaepoffooomnaaW.PrintLast Go.Proofs.YtoaepoffooomnaaW.PrintMore
theorem toBook_ev (F : List TeamA) (w d s : Int) (L : List Int) (ag : Bool) (G : List GameA) (fa ta : List Int) (h1 : F.length ≤ 1048576) (h2 : L.length ≤ 1048576) (h3 : G.length ≤ 1048576) (h4 : fa.length ≤ 1048576) (h5 : ta.length ≤ 1048576) :
    Ev (fun k => laws_toBook.f k F w d s L ag G fa ta) (F.map convT, w, d, s, L, ag, G.map convG, fa, ta) := by
  unfold laws_toBook.f laws_toRules.f
  exact Ev.bind (toTeam_ev F h1) (Ev.bind (Ev.bind (toInt_ev L h2) (Ev.now (w, d, s, L, ag))) (Ev.bind (toGame_ev G h3) (Ev.bind (toInt_ev fa h4) (Ev.bind (toInt_ev ta h5) (Ev.now _)))))
theorem eqRules_ev (w d s : Int) (L : List Int) (ag : Bool) (h2 : L.length ≤ 1048576) : Ev (fun k => laws_eqRules.f k w d s L ag w d s L ag) true := by
  unfold laws_eqRules.f
  refine Ev.congr (fun k => by rw [if_pos rfl, if_pos rfl, if_pos rfl]) (Ev.bind (eqInt_ev L h2) (Ev.val fun k => ?_))
  simp
theorem eqBook_ev (F : List Team) (w d s : Int) (L : List Int) (ag : Bool) (G : List Game) (fa ta : List Int) (h1 : F.length ≤ 1048576) (h2 : L.length ≤ 1048576) (h3 : G.length ≤ 1048576) (h4 : fa.length ≤ 1048576) (h5 : ta.length ≤ 1048576) :
    Ev (fun k => laws_eqBook.f k F w d s L ag G fa ta F w d s L ag G fa ta) true := by
  unfold laws_eqBook.f
  refine Ev.bind (eqTeam_ev F h1) (Ev.congr (fun k => by rw [if_pos rfl]) (Ev.bind (eqRules_ev w d s L ag h2) (Ev.congr (fun k => by rw [if_pos rfl]) (Ev.bind (eqGame_ev G h3) (Ev.congr (fun k => by rw [if_pos rfl]) (Ev.bind (eqInt_ev fa h4) (Ev.congr (fun k => by rw [if_pos rfl]) (Ev.bind (eqInt_ev ta h5) (Ev.val fun k => by rw [if_pos rfl])))))))))
noncomputable def markBk (a : Int) (f l g x y : Nat) : Int × List Team × List Int × List Game × List Int × List Int :=
  (a + 3 * f + l + 5 * g + x + y, marksTm f a, marksI l (a + 3 * f), marksGm g (a + 3 * f + l), marksI x (a + 3 * f + l + 5 * g), marksI y (a + 3 * f + l + 5 * g + x))
theorem markBook_ev (F : List Team) (w d s : Int) (L : List Int) (ag : Bool) (G : List Game) (fa ta : List Int) (a : Int) (h0 : 0 < a) (ha : a ≤ 10000000) (h1 : F.length ≤ 1048576) (h2 : L.length ≤ 1048576) (h3 : G.length ≤ 1048576) (h4 : fa.length ≤ 1048576) (h5 : ta.length ≤ 1048576) :
    Ev (fun k => laws_markBook.f k F w d s L ag G fa ta a) (markBk a F.length L.length G.length fa.length ta.length) := by
  unfold laws_markBook.f laws_markRules.f
  refine Ev.bind (markTeam_ev F a h0 (by omega)) ?_
  refine Ev.bind (Ev.bind (markInt_ev L _ (by omega) (by omega)) (Ev.now (a + 3 * F.length + L.length, marksI L.length (a + 3 * F.length)))) ?_
  refine Ev.bind (markGame_ev G _ (by show 0 < a + 3 * (F.length : Int) + L.length; omega) (by show a + 3 * (F.length : Int) + L.length + 5 * G.length ≤ _; omega)) ?_
  refine Ev.bind (markInt_ev fa _ (by show 0 ≤ a + 3 * (F.length : Int) + L.length + 5 * G.length; omega) (by show a + 3 * (F.length : Int) + L.length + 5 * G.length + fa.length ≤ _; omega)) ?_
  refine Ev.bind (markInt_ev ta _ (by show 0 ≤ a + 3 * (F.length : Int) + L.length + 5 * G.length + fa.length; omega) (by show a + 3 * (F.length : Int) + L.length + 5 * G.length + fa.length + ta.length ≤ _; omega)) ?_
  exact Ev.now _
theorem heldBook_ev (w d s : Int) (ag : Bool) (a : Int) (h0 : 0 < a) (ha : a ≤ 10000000) (f l g x y : Nat) (h1 : f ≤ 1048576) (h2 : l ≤ 1048576) (h3 : g ≤ 1048576) (h4 : x ≤ 1048576) (h5 : y ≤ 1048576) :
    Ev (fun k => laws_heldBook.f k (markBk a f l g x y).2.1 w d s (markBk a f l g x y).2.2.1 ag (markBk a f l g x y).2.2.2.1 (markBk a f l g x y).2.2.2.2.1 (markBk a f l g x y).2.2.2.2.2 a) (markBk a f l g x y).1 := by
  unfold laws_heldBook.f laws_heldRules.f markBk
  refine Ev.bind (heldTeam_ev f a h0 (by omega)) (Ev.congr (fun k => by rw [if_neg (by omega)]) ?_)
  refine Ev.bind (Ev.bind (heldInt_ev l _ (by omega) (by omega)) (Ev.val fun k => by rw [if_neg (by omega)])) (Ev.congr (fun k => by rw [if_neg (by omega)]) ?_)
  refine Ev.bind (heldGame_ev g _ (by omega) (by omega)) (Ev.congr (fun k => by rw [if_neg (by omega)]) ?_)
  refine Ev.bind (heldInt_ev x _ (by omega) (by omega)) (Ev.congr (fun k => by rw [if_neg (by omega)]) ?_)
  exact Ev.bind (heldInt_ev y _ (by omega) (by omega)) (Ev.val fun k => by rw [if_neg (by omega)])
theorem markBk_pos (a : Int) (h0 : 0 < a) (f l g x y : Nat) : 0 < (markBk a f l g x y).1 := by
  unfold markBk
  show 0 < a + 3 * (f : Int) + l + 5 * g + x + y
  omega
theorem markBk_le (a : Int) (f l g x y : Nat) (h1 : f ≤ 1048576) (h2 : l ≤ 1048576) (h3 : g ≤ 1048576) (h4 : x ≤ 1048576) (h5 : y ≤ 1048576) (ha : a ≤ 1000) : (markBk a f l g x y).1 ≤ 20000000 := by
  unfold markBk
  show a + 3 * (f : Int) + l + 5 * g + x + y ≤ _
  omega
structure BkSmall (F : List TeamA) (L : List Int) (G : List GameA) (fa ta : List Int) : Prop where
  f : F.length ≤ 1048576
  n : ∀ t ∈ F, t.f0.size ≤ 1048576
  l : L.length ≤ 1048576
  g : G.length ≤ 1048576
  x : fa.length ≤ 1048576
  y : ta.length ≤ 1048576
theorem szTeam_ev (l : List TeamA) (hl : l.length ≤ 9223372036854775807) (hn : ∀ t ∈ l, t.f0.size ≤ 9223372036854775807) (x : Int) (h0 : 0 ≤ x) (h1 : x ≤ 1048576) : ∃ t, Ev (fun k => laws_szTeamS.f k l x) t ∧ (t < 0 ∨ 0 ≤ t ∧ t ≤ x ∧ l.length ≤ 1048576 ∧ ∀ r ∈ l, r.f0.size ≤ 1048576) := by
  have key : l.length ≤ 1048576 → ∀ (d i : Nat) (x : Int), i + d = l.length → 0 ≤ x → x ≤ 1048576 → ∃ t, Ev (fun k => laws_szTeamS.l0 k l x (i : Int)) t ∧ (t < 0 ∨ 0 ≤ t ∧ t ≤ x ∧ ∀ r ∈ l.drop i, r.f0.size ≤ 1048576) := by
    intro hl2 d
    induction d with
    | zero =>
      intro i x hi h0 h1
      refine ⟨x, Ev.step (f := fun _ => some x) (fun k => by rw [laws_szTeamS.l0, if_neg (by omega)]) (Ev.now _), .inr ⟨h0, Int.le_refl _, ?_⟩⟩
      rw [List.drop_eq_nil_of_le (by omega)]
      intro r hr; cases hr
    | succ d ih =>
      intro i x hi h0 h1
      have hlt : i < l.length := by omega
      have hm := hn l[i] (List.getElem_mem hlt)
      have hw : wrap64 (x - (l[i].f0.size : Int)) = x - l[i].f0.size := wrap_id _ (by omega) (by omega)
      by_cases h : x - (l[i].f0.size : Int) < 0
      · exact ⟨-1, Ev.step (f := fun _ => some (-1)) (fun k => by rw [laws_szTeamS.l0, if_pos (by omega), if_pos (by omega), rdTA_eq l i hlt, laws_szTeam.f, hw, if_pos h, Option.bind_some, if_pos (by decide)]) (Ev.now _), .inl (by decide)⟩
      · obtain ⟨t, e, ht⟩ := ih (i + 1) (x - l[i].f0.size) (by omega) (by omega) (by omega)
        refine ⟨t, Ev.step (fun k => by rw [laws_szTeamS.l0, if_pos (by omega), if_pos (by omega), rdTA_eq l i hlt, laws_szTeam.f, hw, if_neg h, Option.bind_some, if_neg h, wrap_succ i (by omega)]) e, ?_⟩
        rcases ht with ht | ⟨ht, ht2, hd⟩
        · exact .inl ht
        · refine .inr ⟨ht, by omega, ?_⟩
          rw [List.drop_eq_getElem_cons hlt]
          intro r hr
          rcases List.mem_cons.mp hr with rfl | hr
          · omega
          · exact hd r hr
  by_cases h : x - (l.length : Int) < 0
  · exact ⟨-1, Ev.congr (f := fun _ => some (-1)) (fun k => by unfold laws_szTeamS.f; rw [wrap_id _ (by omega) (by omega), if_pos h]) (Ev.now _), .inl (by decide)⟩
  · obtain ⟨t, e, ht⟩ := key (by omega) l.length 0 (x - l.length) (by omega) (by omega) (by omega)
    refine ⟨t, Ev.congr (fun k => by unfold laws_szTeamS.f; rw [wrap_id _ (by omega) (by omega), if_neg h]; rfl) e, ?_⟩
    rcases ht with ht | ⟨ht, ht2, hd⟩
    · exact .inl ht
    · exact .inr ⟨ht, by omega, by omega, by rw [List.drop_zero] at hd; exact hd⟩
theorem szGame_eq (r : List GameA) (x : Int) (h0 : 0 ≤ x) (h1 : x ≤ 1048576) (hr : r.length ≤ 9223372036854775807) : laws_szGameS.f r x = some (if x - r.length < 0 then -1 else x - r.length) := by
  unfold laws_szGameS.f
  rw [wrap_id _ (by omega) (by omega)]
  split <;> rfl
theorem szBook_ev (F : List TeamA) (w d s : Int) (L : List Int) (ag : Bool) (G : List GameA) (fa ta : List Int) (hf : F.length ≤ 9223372036854775807) (hn : ∀ t ∈ F, t.f0.size ≤ 9223372036854775807) (hl : L.length ≤ 9223372036854775807) (hg : G.length ≤ 9223372036854775807) (hx : fa.length ≤ 9223372036854775807) (hy : ta.length ≤ 9223372036854775807) :
    ∃ t, Ev (fun k => laws_szBook.f k F w d s L ag G fa ta 1048576) t ∧ (t < 0 ∨ 0 ≤ t ∧ t ≤ 1048576 ∧ BkSmall F L G fa ta) := by
  obtain ⟨t1, e1, c1⟩ := szTeam_ev F hf hn 1048576 (by decide) (by decide)
  have neg : ∀ {g : Nat → Option Int}, Ev g (-1) → ∃ t, Ev g t ∧ (t < 0 ∨ 0 ≤ t ∧ t ≤ 1048576 ∧ BkSmall F L G fa ta) := fun e => ⟨_, e, .inl (by decide)⟩
  unfold laws_szBook.f
  rcases c1 with c1 | ⟨c0, c2, c3, c4⟩
  · exact neg (Ev.bind e1 (Ev.val fun k => by rw [if_pos c1]))
  have r1 := szInt_eq L t1 c0 c2 (by omega)
  by_cases d1 : t1 - (L.length : Int) < 0
  · rw [if_pos d1] at r1
    exact neg (Ev.bind e1 (Ev.val fun k => by rw [if_neg (by omega), laws_szRules.f, r1, Option.bind_some, if_pos (by decide), Option.bind_some, if_pos (by decide)]))
  rw [if_neg d1] at r1
  have r2 := szGame_eq G (t1 - L.length) (by omega) (by omega) (by omega)
  by_cases d2 : t1 - (L.length : Int) - G.length < 0
  · rw [if_pos d2] at r2
    exact neg (Ev.bind e1 (Ev.val fun k => by rw [if_neg (by omega), laws_szRules.f, r1, Option.bind_some, if_neg d1, Option.bind_some, if_neg d1, r2, Option.bind_some, if_pos (by decide)]))
  rw [if_neg d2] at r2
  have r3 := szInt_eq fa (t1 - L.length - G.length) (by omega) (by omega) (by omega)
  by_cases d3 : t1 - (L.length : Int) - G.length - fa.length < 0
  · rw [if_pos d3] at r3
    exact neg (Ev.bind e1 (Ev.val fun k => by rw [if_neg (by omega), laws_szRules.f, r1, Option.bind_some, if_neg d1, Option.bind_some, if_neg d1, r2, Option.bind_some, if_neg d2, r3, Option.bind_some, if_pos (by decide)]))
  rw [if_neg d3] at r3
  have r4 := szInt_eq ta (t1 - L.length - G.length - fa.length) (by omega) (by omega) (by omega)
  by_cases d4 : t1 - (L.length : Int) - G.length - fa.length - ta.length < 0
  · rw [if_pos d4] at r4
    exact neg (Ev.bind e1 (Ev.val fun k => by rw [if_neg (by omega), laws_szRules.f, r1, Option.bind_some, if_neg d1, Option.bind_some, if_neg d1, r2, Option.bind_some, if_neg d2, r3, Option.bind_some, if_neg d3, r4, Option.bind_some, if_pos (by decide)]))
  rw [if_neg d4] at r4
  refine ⟨_, Ev.bind e1 (Ev.val fun k => by rw [if_neg (by omega), laws_szRules.f, r1, Option.bind_some, if_neg d1, Option.bind_some, if_neg d1, r2, Option.bind_some, if_neg d2, r3, Option.bind_some, if_neg d3, r4, Option.bind_some, if_neg d4]), .inr ⟨by omega, by omega, ⟨c3, c4, ?_, ?_, ?_, ?_⟩⟩⟩ <;> omega
def BkArg (F : List TeamA) (w d s : Int) (L : List Int) (G : List GameA) (fa ta : List Int) : Prop :=
  (F.length ≤ maxLen ∧ ∀ t ∈ F, t.f0.size ≤ maxLen ∧ (Lit.int .i64 t.f1).wf = true ∧ (Lit.int .i64 t.f2).wf = true) ∧
  ((Lit.int .i64 w).wf = true ∧ (Lit.int .i64 d).wf = true ∧ (Lit.int .i64 s).wf = true ∧ (L.length ≤ maxLen ∧ ∀ x ∈ L, (Lit.int .i64 x).wf = true) ∧ True) ∧
  (G.length ≤ maxLen ∧ ∀ g ∈ G, (Lit.int .i64 g.f0).wf = true ∧ (Lit.int .i64 g.f1).wf = true ∧ (Lit.int .i64 g.f2).wf = true ∧ (Lit.int .i64 g.f3).wf = true ∧ (Lit.int .i64 g.f4).wf = true) ∧
  (fa.length ≤ maxLen ∧ ∀ x ∈ fa, (Lit.int .i64 x).wf = true) ∧ (ta.length ≤ maxLen ∧ ∀ x ∈ ta, (Lit.int .i64 x).wf = true)
theorem szBook_arg (F : List TeamA) (w d s : Int) (L : List Int) (ag : Bool) (G : List GameA) (fa ta : List Int) (h : BkArg F w d s L G fa ta) :
    ∃ t, Ev (fun k => laws_szBook.f k F w d s L ag G fa ta 1048576) t ∧ (t < 0 ∨ 0 ≤ t ∧ t ≤ 1048576 ∧ BkSmall F L G fa ta) :=
  szBook_ev F w d s L ag G fa ta h.1.1 (fun t ht => (h.1.2 t ht).1) h.2.1.2.2.2.1.1 h.2.2.1.1 h.2.2.2.1.1 h.2.2.2.2.1
end Go.Proofs.Ytoaepoffooomnaa.Q
