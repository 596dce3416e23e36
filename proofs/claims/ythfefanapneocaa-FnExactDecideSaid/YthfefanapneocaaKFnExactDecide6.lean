/- A part of the proof of FnExactDecide: functions of the program, as plain functions, with the proof that the machine's call does what they say; plain lemmas; and those of the words that print.sh prints which this proof uses. No condition. -/
import Derived.Test.YthfefanapneocaaKFnExactDecide1
import Derived.Test.YthfefanapneocaaProg
import Derived.Below
import Derived.Deep.Draws
import Derived.Deep.AppendLies
import Derived.Maps.AppendAt
import Derived.OwnWalk
import Derived.Laws.BytesArg
import Derived.Laws.MakeOwn
import Derived.Laws.OwnMore
import Derived.Deep.OwnRows
import Derived.Tactics
import Derived.Lib.ConvBytes
import Derived.Laws.Slices
import Derived.WalkKit
import Derived.KernelRfl
import Derived.RowKit3
import Derived.Deep.LoopGhost
import Derived.Deep.QuietTactic
import Derived.BigQuiet
import Derived.WideLaws
import Derived.Deep.DeepCutAuto
import Derived.Deep.CutBlock
import Derived.Deep.RegionHeld3
import Derived.Laws.Rows
import Derived.Lib.AppendStr
import Derived.ArgAppend
import Derived.Laws.IdiomCopy
import Derived.OrdersHeld
import Derived.Laws.BitsLemmas
import Derived.RowKit
import Derived.WalkSpells
import Derived.Laws.StructEq
import Derived.Test.YthfefanapneocaaKFnExactDecide2
import Derived.Test.YthfefanapneocaaKFnExactDecide3
import Derived.Test.YthfefanapneocaaKFnExactDecide4
import Derived.Test.YthfefanapneocaaKFnExactDecide5
import Derived.Test.YthfefanapneocaaRows
import Derived.ProofKit
import Derived.OpenShut
import Derived.ShutString
import Derived.ChangeOld
import Derived.SizedLaws
section
namespace Go.Proofs.Ythfefanapneocaa.Q
open Go.RowKit Go.Proofs.YthfefanapneocaaW.PrintWords Go.Proofs.YthfefanapneocaaW.PrintLast Go.Proofs.YthfefanapneocaaW.PrintMore
attribute [local go_sem] max2_int min2_int max_two min_two max_three min_three max_four min_four
set_option linter.unusedVariables false
set_option linter.unusedSimpArgs false
set_option maxRecDepth 100000
set_option maxHeartbeats 8000000
mutual
def laws_FnExactDecide.j0 : Nat → List (S48) → Bool → List (S50) → Bool → Bool → List (S133) → Int → Int → Int → List Int → Bool → List (S147) → List Int → List Int → List (S139) → Int → Int → Int → List Int → Bool → List (S95) → List Int → List Int → List (S139) → Int → Int → Int → List Int → Bool → List (S95) → List Int → List Int → List (S139) → Int → Int → Int → List Int → Bool → List (S95) → List Int → List Int → Option (Bool)
 | 0, _, _, _, _, _, _, _, _, _, _, _, _, _, _, _, _, _, _, _, _, _, _, _, _, _, _, _, _, _, _, _, _, _, _, _, _, _, _, _, _, _ => none
 | k + 1, x1, x7, x9, x11, x53, x495000, x495001, x495002, x495003, x495004, x495005, x495006, x495007, x495008, x540000, x540001, x540002, x540003, x540004, x540005, x540006, x540007, x540008, x560000, x560001, x560002, x560003, x560004, x560005, x560006, x560007, x560008, x584000, x584001, x584002, x584003, x584004, x584005, x584006, x584007, x584008 => if x53 = true then (some false) else ((laws_toBook.f k x495000 x495001 x495002 x495003 x495004 x495005 x495006 x495007 x495008).bind fun bt585 => ((laws_eqBook.f k x560000 x560001 x560002 x560003 x560004 x560005 x560006 x560007 x560008 bt585.1 bt585.2.1 bt585.2.2.1 bt585.2.2.2.1 bt585.2.2.2.2.1 bt585.2.2.2.2.2.1 bt585.2.2.2.2.2.2.1 bt585.2.2.2.2.2.2.2.1 bt585.2.2.2.2.2.2.2.2).bind fun t604 => (if t604 = true then ((laws_toProtestS.f k x1).bind fun t605 => ((laws_eqProtestS.f k x9 t605).bind fun t608 => (if t608 = true then ((laws_markBook.f k x560000 x560001 x560002 x560003 x560004 x560005 x560006 x560007 x560008 1).bind fun bt609 => ((laws_markProtestS.f k x9 bt609.1).bind fun bt615 => (if bt615.1 < 0 then (laws_FnExactDecide.j1 k x1 x7 true x495000 x495001 x495002 x495003 x495004 x495005 x495006 x495007 x495008 x540000 x540001 x540002 x540003 x540004 x540005 x540006 x540007 x540008 x584000 x584001 x584002 x584003 x584004 x584005 x584006 x584007 x584008) else ((laws_eqBook.f k x584000 x584001 x584002 x584003 x584004 x584005 x584006 x584007 x584008 x540000 x540001 x540002 x540003 x540004 x540005 x540006 x540007 x540008).bind fun t617 => (if t617 = true then (laws_FnExactDecide.j1 k x1 x7 (x11 != x7) x495000 x495001 x495002 x495003 x495004 x495005 x495006 x495007 x495008 x540000 x540001 x540002 x540003 x540004 x540005 x540006 x540007 x540008 x584000 x584001 x584002 x584003 x584004 x584005 x584006 x584007 x584008) else (laws_FnExactDecide.j1 k x1 x7 true x495000 x495001 x495002 x495003 x495004 x495005 x495006 x495007 x495008 x540000 x540001 x540002 x540003 x540004 x540005 x540006 x540007 x540008 x584000 x584001 x584002 x584003 x584004 x584005 x584006 x584007 x584008)))))) else (some false)))) else (some false))))
def laws_FnExactDecide.j1 : Nat → List (S48) → Bool → Bool → List (S133) → Int → Int → Int → List Int → Bool → List (S147) → List Int → List Int → List (S139) → Int → Int → Int → List Int → Bool → List (S95) → List Int → List Int → List (S139) → Int → Int → Int → List Int → Bool → List (S95) → List Int → List Int → Option (Bool)
 | 0, _, _, _, _, _, _, _, _, _, _, _, _, _, _, _, _, _, _, _, _, _, _, _, _, _, _, _, _, _, _ => none
 | k + 1, x1, x7, x82, x495000, x495001, x495002, x495003, x495004, x495005, x495006, x495007, x495008, x540000, x540001, x540002, x540003, x540004, x540005, x540006, x540007, x540008, x584000, x584001, x584002, x584003, x584004, x584005, x584006, x584007, x584008 => if x82 = true then (some false) else ((laws_markBook.f k x584000 x584001 x584002 x584003 x584004 x584005 x584006 x584007 x584008 1).bind fun bt618 => ((laws_heldBook.f k bt618.2.1 x584001 x584002 x584003 bt618.2.2.1 x584005 bt618.2.2.2.1 bt618.2.2.2.2.1 bt618.2.2.2.2.2 1).bind fun t624 => (if t624 < 0 then (some false) else (if t624 = bt618.1 then ((laws_toBook.f k x495000 x495001 x495002 x495003 x495004 x495005 x495006 x495007 x495008).bind fun bt625 => ((laws_toProtestS.f k x1).bind fun t644 => ((impl_Decide.f k bt625.1 bt625.2.1 bt625.2.2.1 bt625.2.2.2.1 bt625.2.2.2.2.1 bt625.2.2.2.2.2.1 bt625.2.2.2.2.2.2.1 bt625.2.2.2.2.2.2.2.1 bt625.2.2.2.2.2.2.2.2 t644).bind fun bt647 => ((laws_eqBook.f k bt647.1 bt647.2.1 bt647.2.2.1 bt647.2.2.2.1 bt647.2.2.2.2.1 bt647.2.2.2.2.2.1 bt647.2.2.2.2.2.2.1 bt647.2.2.2.2.2.2.2.1 bt647.2.2.2.2.2.2.2.2.1 x540000 x540001 x540002 x540003 x540004 x540005 x540006 x540007 x540008).bind fun t668 => (if t668 = true then (laws_FnExactDecide.j2 k bt618.1 (bt647.2.2.2.2.2.2.2.2.2 != x7) bt618.2.1 x584001 x584002 x584003 bt618.2.2.1 x584005 bt618.2.2.2.1 bt618.2.2.2.2.1 bt618.2.2.2.2.2) else (laws_FnExactDecide.j2 k bt618.1 true bt618.2.1 x584001 x584002 x584003 bt618.2.2.1 x584005 bt618.2.2.2.1 bt618.2.2.2.2.1 bt618.2.2.2.2.2)))))) else (some false)))))
def laws_FnExactDecide.j2 : Nat → Int → Bool → List (S139) → Int → Int → Int → List Int → Bool → List (S95) → List Int → List Int → Option (Bool)
 | 0, _, _, _, _, _, _, _, _, _, _, _ => none
 | k + 1, x13, x110, x584000, x584001, x584002, x584003, x584004, x584005, x584006, x584007, x584008 => if x110 = true then (some false) else ((laws_heldBook.f k x584000 x584001 x584002 x584003 x584004 x584005 x584006 x584007 x584008 1).bind fun t669 => (if t669 < 0 then (some false) else (if t669 = x13 then (some true) else (some false))))
end
def laws_FnExactDecide.f (k : Nat) (l0_0 : List (S133)) (a0_1 : Int) (a0_2 : Int) (a0_3 : Int) (l0_4 : List Int) (a0_5 : Bool) (l0_6 : List (S147)) (l0_7 : List Int) (l0_8 : List Int) (l1 : List (S48)) : Option (Bool) := (laws_szBook.f k l0_0 a0_1 a0_2 a0_3 l0_4 a0_5 l0_6 l0_7 l0_8 1048576).bind fun t495 => (if t495 < 0 then (some true) else ((laws_szProtestS.f l1 t495).bind fun t496 => (if t496 < 0 then (some true) else ((laws_toBook.f k l0_0 a0_1 a0_2 a0_3 l0_4 a0_5 l0_6 l0_7 l0_8).bind fun bt497 => ((laws_toProtestS.f k l1).bind fun t516 => ((spec_Decide.f k bt497.1 bt497.2.1 bt497.2.2.1 bt497.2.2.2.1 bt497.2.2.2.2.1 bt497.2.2.2.2.2.1 bt497.2.2.2.2.2.2.1 bt497.2.2.2.2.2.2.2.1 bt497.2.2.2.2.2.2.2.2 t516).bind fun bt519 => ((laws_toBook.f k l0_0 a0_1 a0_2 a0_3 l0_4 a0_5 l0_6 l0_7 l0_8).bind fun bt540 => ((laws_toProtestS.f k l1).bind fun t560 => ((impl_Decide.f k bt540.1 bt540.2.1 bt540.2.2.1 bt540.2.2.2.1 bt540.2.2.2.2.1 bt540.2.2.2.2.2.1 bt540.2.2.2.2.2.2.1 bt540.2.2.2.2.2.2.2.1 bt540.2.2.2.2.2.2.2.2 t560).bind fun bt563 => ((laws_eqBook.f k bt563.1 bt563.2.1 bt563.2.2.1 bt563.2.2.2.1 bt563.2.2.2.2.1 bt563.2.2.2.2.2.1 bt563.2.2.2.2.2.2.1 bt563.2.2.2.2.2.2.2.1 bt563.2.2.2.2.2.2.2.2.1 bt519.1 bt519.2.1 bt519.2.2.1 bt519.2.2.2.1 bt519.2.2.2.2.1 bt519.2.2.2.2.2.1 bt519.2.2.2.2.2.2.1 bt519.2.2.2.2.2.2.2.1 bt519.2.2.2.2.2.2.2.2.1).bind fun t584 => (if t584 = true then (laws_FnExactDecide.j0 k l1 bt519.2.2.2.2.2.2.2.2.2 t560 bt563.2.2.2.2.2.2.2.2.2 (bt563.2.2.2.2.2.2.2.2.2 != bt519.2.2.2.2.2.2.2.2.2) l0_0 a0_1 a0_2 a0_3 l0_4 a0_5 l0_6 l0_7 l0_8 bt519.1 bt519.2.1 bt519.2.2.1 bt519.2.2.2.1 bt519.2.2.2.2.1 bt519.2.2.2.2.2.1 bt519.2.2.2.2.2.2.1 bt519.2.2.2.2.2.2.2.1 bt519.2.2.2.2.2.2.2.2.1 bt540.1 bt540.2.1 bt540.2.2.1 bt540.2.2.2.1 bt540.2.2.2.2.1 bt540.2.2.2.2.2.1 bt540.2.2.2.2.2.2.1 bt540.2.2.2.2.2.2.2.1 bt540.2.2.2.2.2.2.2.2 bt563.1 bt563.2.1 bt563.2.2.1 bt563.2.2.2.1 bt563.2.2.2.2.1 bt563.2.2.2.2.2.1 bt563.2.2.2.2.2.2.1 bt563.2.2.2.2.2.2.2.1 bt563.2.2.2.2.2.2.2.2.1) else (laws_FnExactDecide.j0 k l1 bt519.2.2.2.2.2.2.2.2.2 t560 bt563.2.2.2.2.2.2.2.2.2 true l0_0 a0_1 a0_2 a0_3 l0_4 a0_5 l0_6 l0_7 l0_8 bt519.1 bt519.2.1 bt519.2.2.1 bt519.2.2.2.1 bt519.2.2.2.2.1 bt519.2.2.2.2.2.1 bt519.2.2.2.2.2.2.1 bt519.2.2.2.2.2.2.2.1 bt519.2.2.2.2.2.2.2.2.1 bt540.1 bt540.2.1 bt540.2.2.1 bt540.2.2.2.1 bt540.2.2.2.2.1 bt540.2.2.2.2.2.1 bt540.2.2.2.2.2.2.1 bt540.2.2.2.2.2.2.2.1 bt540.2.2.2.2.2.2.2.2 bt563.1 bt563.2.1 bt563.2.2.1 bt563.2.2.2.1 bt563.2.2.2.2.1 bt563.2.2.2.2.2.1 bt563.2.2.2.2.2.2.1 bt563.2.2.2.2.2.2.2.1 bt563.2.2.2.2.2.2.2.2.1))))))))))))
theorem laws_FnExactDecide.calls (k : Nat) (A0_0 : Option Addr) (c0_0 : Nat) (l0_0 : List (S133)) (a0_1 : Int) (a0_2 : Int) (a0_3 : Int) (A0_4 : Option Addr) (c0_4 : Nat) (l0_4 : List Int) (a0_5 : Bool) (A0_6 : Option Addr) (c0_6 : Nat) (l0_6 : List (S147)) (A0_7 : Option Addr) (c0_7 : Nat) (l0_7 : List Int) (A0_8 : Option Addr) (c0_8 : Nat) (l0_8 : List Int) (A1 : Option Addr) (c1 : Nat) (l1 : List (S48)) (r : Bool) (w : World) (hr0_0 : Kd.C k133 w A0_0 l0_0.length l0_0) (hc0_0 : l0_0.length ≤ c0_0) (hr0_4 : Kd.C (Kd.int .i64) w A0_4 l0_4.length l0_4) (hc0_4 : l0_4.length ≤ c0_4) (hr0_6 : Kd.C k147 w A0_6 l0_6.length l0_6) (hc0_6 : l0_6.length ≤ c0_6) (hr0_7 : Kd.C (Kd.int .i64) w A0_7 l0_7.length l0_7) (hc0_7 : l0_7.length ≤ c0_7) (hr0_8 : Kd.C (Kd.int .i64) w A0_8 l0_8.length l0_8) (hc0_8 : l0_8.length ≤ c0_8) (hr1 : Kd.C k48 w A1 l1.length l1) (hc1 : l1.length ≤ c1) (h : laws_FnExactDecide.f k l0_0 a0_1 a0_2 a0_3 l0_4 a0_5 l0_6 l0_7 l0_8 l1 = some r) :
  Calls Try.prog 3 #[.agg #[.slice A0_0 l0_0.length c0_0, .int .i64 a0_1, .int .i64 a0_2, .int .i64 a0_3, .slice A0_4 l0_4.length c0_4, .bool a0_5, .slice A0_6 l0_6.length c0_6, .slice A0_7 l0_7.length c0_7, .slice A0_8 l0_8.length c0_8], .slice A1 l1.length c1] w fun e w' => e = .returned (.bool r) ∧ Below w.heap.size w w' := by
 have hu28 := Try.underlying28
 have hu36 := Try.underlying36
 have HR0_0 := dk hr0_0
 have HC0_0 := dk hc0_0
 clear hr0_0 hc0_0
 have HR0_4 := dk hr0_4
 have HC0_4 := dk hc0_4
 clear hr0_4 hc0_4
 have HR0_6 := dk hr0_6
 have HC0_6 := dk hc0_6
 clear hr0_6 hc0_6
 have HR0_7 := dk hr0_7
 have HC0_7 := dk hc0_7
 clear hr0_7 hc0_7
 have HR0_8 := dk hr0_8
 have HC0_8 := dk hc0_8
 clear hr0_8 hc0_8
 have HR1 := dk hr1
 have HC1 := dk hc1
 clear hr1 hc1
 have HB := dk (Below.refl w.heap.size w)
 have H : ((laws_szBook.f k l0_0 a0_1 a0_2 a0_3 l0_4 a0_5 l0_6 l0_7 l0_8 1048576).bind fun t495 => (if t495 < 0 then (some true) else ((laws_szProtestS.f l1 t495).bind fun t496 => (if t496 < 0 then (some true) else ((laws_toBook.f k l0_0 a0_1 a0_2 a0_3 l0_4 a0_5 l0_6 l0_7 l0_8).bind fun bt497 => ((laws_toProtestS.f k l1).bind fun t516 => ((spec_Decide.f k bt497.1 bt497.2.1 bt497.2.2.1 bt497.2.2.2.1 bt497.2.2.2.2.1 bt497.2.2.2.2.2.1 bt497.2.2.2.2.2.2.1 bt497.2.2.2.2.2.2.2.1 bt497.2.2.2.2.2.2.2.2 t516).bind fun bt519 => ((laws_toBook.f k l0_0 a0_1 a0_2 a0_3 l0_4 a0_5 l0_6 l0_7 l0_8).bind fun bt540 => ((laws_toProtestS.f k l1).bind fun t560 => ((impl_Decide.f k bt540.1 bt540.2.1 bt540.2.2.1 bt540.2.2.2.1 bt540.2.2.2.2.1 bt540.2.2.2.2.2.1 bt540.2.2.2.2.2.2.1 bt540.2.2.2.2.2.2.2.1 bt540.2.2.2.2.2.2.2.2 t560).bind fun bt563 => ((laws_eqBook.f k bt563.1 bt563.2.1 bt563.2.2.1 bt563.2.2.2.1 bt563.2.2.2.2.1 bt563.2.2.2.2.2.1 bt563.2.2.2.2.2.2.1 bt563.2.2.2.2.2.2.2.1 bt563.2.2.2.2.2.2.2.2.1 bt519.1 bt519.2.1 bt519.2.2.1 bt519.2.2.2.1 bt519.2.2.2.2.1 bt519.2.2.2.2.2.1 bt519.2.2.2.2.2.2.1 bt519.2.2.2.2.2.2.2.1 bt519.2.2.2.2.2.2.2.2.1).bind fun t584 => (if t584 = true then (laws_FnExactDecide.j0 k l1 bt519.2.2.2.2.2.2.2.2.2 t560 bt563.2.2.2.2.2.2.2.2.2 (bt563.2.2.2.2.2.2.2.2.2 != bt519.2.2.2.2.2.2.2.2.2) l0_0 a0_1 a0_2 a0_3 l0_4 a0_5 l0_6 l0_7 l0_8 bt519.1 bt519.2.1 bt519.2.2.1 bt519.2.2.2.1 bt519.2.2.2.2.1 bt519.2.2.2.2.2.1 bt519.2.2.2.2.2.2.1 bt519.2.2.2.2.2.2.2.1 bt519.2.2.2.2.2.2.2.2.1 bt540.1 bt540.2.1 bt540.2.2.1 bt540.2.2.2.1 bt540.2.2.2.2.1 bt540.2.2.2.2.2.1 bt540.2.2.2.2.2.2.1 bt540.2.2.2.2.2.2.2.1 bt540.2.2.2.2.2.2.2.2 bt563.1 bt563.2.1 bt563.2.2.1 bt563.2.2.2.1 bt563.2.2.2.2.1 bt563.2.2.2.2.2.1 bt563.2.2.2.2.2.2.1 bt563.2.2.2.2.2.2.2.1 bt563.2.2.2.2.2.2.2.2.1) else (laws_FnExactDecide.j0 k l1 bt519.2.2.2.2.2.2.2.2.2 t560 bt563.2.2.2.2.2.2.2.2.2 true l0_0 a0_1 a0_2 a0_3 l0_4 a0_5 l0_6 l0_7 l0_8 bt519.1 bt519.2.1 bt519.2.2.1 bt519.2.2.2.1 bt519.2.2.2.2.1 bt519.2.2.2.2.2.1 bt519.2.2.2.2.2.2.1 bt519.2.2.2.2.2.2.2.1 bt519.2.2.2.2.2.2.2.2.1 bt540.1 bt540.2.1 bt540.2.2.1 bt540.2.2.2.1 bt540.2.2.2.2.1 bt540.2.2.2.2.2.1 bt540.2.2.2.2.2.2.1 bt540.2.2.2.2.2.2.2.1 bt540.2.2.2.2.2.2.2.2 bt563.1 bt563.2.1 bt563.2.2.1 bt563.2.2.2.1 bt563.2.2.2.2.1 bt563.2.2.2.2.2.1 bt563.2.2.2.2.2.2.1 bt563.2.2.2.2.2.2.2.1 bt563.2.2.2.2.2.2.2.2.1))))))))))))) = some r := h
 clear h
 replace H := Option.bind_eq_some_iff.mp H
 obtain ⟨t495, A30, H⟩ := H
 try dsimp only at H
 have A3 := dk A30
 clear A30
 have HC4 := dk H
 clear H
 go_enter Try.func3, Try.ntmps3
 go_upto_if 21 with (first | ((with_reducible refine gate_dst (N := 2) rfl ?_); refine bx (N := 2) (cs := #[.slice A0_0 l0_0.length c0_0, .int .i64 a0_1, .int .i64 a0_2, .int .i64 a0_3, .slice A0_4 l0_4.length c0_4, .bool a0_5, .slice A0_6 l0_6.length c0_6, .slice A0_7 l0_7.length c0_7, .slice A0_8 l0_8.length c0_8]) (t := 28) ?_; intro gb494 hg w5 hbox hb; have BK494 := dk (hbox); have GW494 := gs hg HB; have GE494 := gs hg HB; replace HB := hs_ HB hb; clear hb hbox hg; have ⟨z6_0, z6_1, z6_2, z6_3, z6_4, z6_5, z6_6, z6_7, z6_8, v6_0, v6_1, v6_2, v6_3, v6_4, v6_5, v6_6, v6_7, v6_8⟩ := rz9 BK494) | ((with_reducible refine gate_callee (f := 10) rfl ?_); refine gl (some 19) Try.func10 #[.agg #[.slice A0_0 l0_0.length c0_0, .int .i64 a0_1, .int .i64 a0_2, .int .i64 a0_3, .slice A0_4 l0_4.length c0_4, .bool a0_5, .slice A0_6 l0_6.length c0_6, .slice A0_7 l0_7.length c0_7, .slice A0_8 l0_8.length c0_8], .int .i64 1048576] ?_; (with_reducible refine (laws_szBook.calls k _ _ l0_0 a0_1 a0_2 a0_3 _ _ l0_4 a0_5 _ _ l0_6 _ _ l0_7 _ _ l0_8 1048576 t495 _ ?side1 ?side2 ?side3 ?side4 ?side5 ?side6 ?side7 ?side8 ?side9 ?side10 A3.out).mono ?_); (case side1 => exact cc HR0_0 HB); (case side2 => exact HC0_0.out); (case side3 => exact cc HR0_4 HB); (case side4 => exact HC0_4.out); (case side5 => exact cc HR0_6 HB); (case side6 => exact HC0_6.out); (case side7 => exact cc HR0_7 HB); (case side8 => exact HC0_7.out); (case side9 => exact cc HR0_8 HB); (case side10 => exact HC0_8.out); rintro e w7 ⟨rfl, hb⟩; refine ⟨_, rfl, ?_⟩; replace BK494 := kb BK494 hb; replace HB := hs_ HB hb; (try clear hb hb2 hk hi)))
 (try simp only [Act.put, List.setIfInBounds_toArray, List.set_cons_zero, List.set_cons_succ])
 have H := HC4.out
 clear HC4
 by_cases c8 : t495 < 0
 ·rw [if_pos c8] at H
  have c8b0 : decide (t495 < 0) = true := decide_eq_true c8
  clear c8
  (first | rw [c8b0] | rw [c8b1] | (simp only [i64_w, i32_w]; rw [c8b0]) | skip)
  obtain rfl := Option.some.inj H
  go_wp2
  go_ret
  exact ⟨ee, bb HB⟩
 ·rw [if_neg c8] at H
  have c8b0 : decide (t495 < 0) = false := decide_eq_false c8
  clear c8
  (first | rw [c8b0] | rw [c8b1] | (simp only [i64_w, i32_w]; rw [c8b0]) | skip)
  replace H := Option.bind_eq_some_iff.mp H
  obtain ⟨t496, A90, H⟩ := H
  try dsimp only at H
  have A9 := dk A90
  clear A90
  have HC10 := dk H
  clear H
  go_upto_if 26 with (first | ((with_reducible refine gate_callee (f := 11) rfl ?_); refine gl (some 24) Try.func11 #[.slice A1 l1.length c1, .int .i64 t495] ?_; (with_reducible refine (laws_szProtestS.calls _ _ l1 t495 t496 _ ?side1 ?side2 A9.out).mono ?_); (case side1 => exact cc HR1 HB); (case side2 => exact HC1.out); rintro e w' ⟨rfl, ⟨nd, rfl⟩⟩; refine ⟨_, rfl, ?_⟩))
  (try simp only [Act.put, List.setIfInBounds_toArray, List.set_cons_zero, List.set_cons_succ])
  have H := HC10.out
  clear HC10
  by_cases c11 : t496 < 0
  ·rw [if_pos c11] at H
   have c11b0 : decide (t496 < 0) = true := decide_eq_true c11
   clear c11
   (first | rw [c11b0] | rw [c11b1] | (simp only [i64_w, i32_w]; rw [c11b0]) | skip)
   obtain rfl := Option.some.inj H
   go_wp2
   go_ret
   exact ⟨ee, bb HB⟩
  ·rw [if_neg c11] at H
   have c11b0 : decide (t496 < 0) = false := decide_eq_false c11
   clear c11
   (first | rw [c11b0] | rw [c11b1] | (simp only [i64_w, i32_w]; rw [c11b0]) | skip)
   replace H := Option.bind_eq_some_iff.mp H
   obtain ⟨⟨t497, t500, t501, t502, t503, t506, t507, t510, t513⟩, A120, H⟩ := H
   try dsimp only at H
   have A12 := dk A120
   clear A120
   replace H := Option.bind_eq_some_iff.mp H
   obtain ⟨t516, A130, H⟩ := H
   try dsimp only at H
   have A13 := dk A130
   clear A130
   replace H := Option.bind_eq_some_iff.mp H
   obtain ⟨⟨t519, t522, t523, t524, t525, t528, t529, t532, t535, t538⟩, A140, H⟩ := H
   try dsimp only at H
   have A14 := dk A140
   clear A140
   replace H := Option.bind_eq_some_iff.mp H
   obtain ⟨⟨t540, t543, t544, t545, t546, t549, t550, t553, t556⟩, A150, H⟩ := H
   try dsimp only at H
   have A15 := dk A150
   clear A150
   replace H := Option.bind_eq_some_iff.mp H
   obtain ⟨t560, A160, H⟩ := H
   try dsimp only at H
   have A16 := dk A160
   clear A160
   replace H := Option.bind_eq_some_iff.mp H
   obtain ⟨⟨t563, t566, t567, t568, t569, t572, t573, t576, t579, t582⟩, A170, H⟩ := H
   try dsimp only at H
   have A17 := dk A170
   clear A170
   have HC18 := dk H
   clear H
   have ⟨z19_0, z19_1, z19_2, z19_3, z19_4, z19_5, z19_6, z19_7, z19_8, v19_0, v19_1, v19_2, v19_3, v19_4, v19_5, v19_6, v19_7, v19_8⟩ := rz9 BK494
   go_upto_region 12 with (first | ((with_reducible refine gate_callee (f := 13) rfl ?_); refine gl (some 29) Try.func13 #[.agg #[.slice A0_0 l0_0.length c0_0, .int .i64 a0_1, .int .i64 a0_2, .int .i64 a0_3, .slice A0_4 l0_4.length c0_4, .bool a0_5, .slice A0_6 l0_6.length c0_6, .slice A0_7 l0_7.length c0_7, .slice A0_8 l0_8.length c0_8]] ?_; (with_reducible refine (laws_toBook.calls k _ _ l0_0 a0_1 a0_2 a0_3 _ _ l0_4 a0_5 _ _ l0_6 _ _ l0_7 _ _ l0_8 t497 t500 t501 t502 t503 t506 t507 t510 t513 _ ?side1 ?side2 ?side3 ?side4 ?side5 ?side6 ?side7 ?side8 ?side9 ?side10 A12.out).mono ?_); (case side1 => exact cc HR0_0 HB); (case side2 => exact HC0_0.out); (case side3 => exact cc HR0_4 HB); (case side4 => exact HC0_4.out); (case side5 => exact cc HR0_6 HB); (case side6 => exact HC0_6.out); (case side7 => exact cc HR0_7 HB); (case side8 => exact HC0_7.out); (case side9 => exact cc HR0_8 HB); (case side10 => exact HC0_8.out); rintro e w20 ⟨v498, v504, v508, v511, v514, rfl, ho0, ho1, ho2, ho3, ho4, hb⟩; refine ⟨_, rfl, ?_⟩; have HO499 := kl ho0 HB; have HO505 := kl ho1 HB; have HO509 := kl ho2 HB; have HO512 := kl ho3 HB; have HO515 := kl ho4 HB; replace BK494 := kb BK494 hb; replace HB := hs_ HB hb; (try clear hb hb2 hk hi ho0 ho1 ho2 ho3 ho4)) | ((with_reducible refine gate_callee (f := 14) rfl ?_); refine gl (some 31) Try.func14 #[.slice A1 l1.length c1] ?_; (with_reducible refine (laws_toProtestS.calls k _ _ l1 t516 _ ?side1 ?side2 A13.out).mono ?_); (case side1 => exact cc HR1 HB); (case side2 => exact HC1.out); rintro e w21 ⟨v517, rfl, ho0, hb⟩; refine ⟨_, rfl, ?_⟩; replace HO499 := kr HO499 hb; replace HO505 := kr HO505 hb; replace HO509 := kr HO509 hb; replace HO512 := kr HO512 hb; replace HO515 := kr HO515 hb; have HO518 := kl ho0 HB; replace BK494 := kb BK494 hb; replace HB := hs_ HB hb; (try clear hb hb2 hk hi ho0); obtain ⟨Ao22, co22, eo22⟩ := Kd.R_slice HO499.out; subst eo22; obtain ⟨Ao23, co23, eo23⟩ := Kd.R_slice HO505.out; subst eo23; obtain ⟨Ao24, co24, eo24⟩ := Kd.R_slice HO509.out; subst eo24; obtain ⟨Ao25, co25, eo25⟩ := Kd.R_slice HO512.out; subst eo25; obtain ⟨Ao26, co26, eo26⟩ := Kd.R_slice HO515.out; subst eo26; obtain ⟨Ao27, co27, eo27⟩ := Kd.R_slice HO518.out; subst eo27) | ((with_reducible refine gate_callee (f := 12) rfl ?_); refine gl (some 32) Try.func12 #[.agg #[.slice Ao22 t497.length co22, .int .i64 t500, .int .i64 t501, .int .i64 t502, .slice Ao23 t503.length co23, .bool t506, .slice Ao24 t507.length co24, .slice Ao25 t510.length co25, .slice Ao26 t513.length co26], .slice Ao27 t516.length co27] ?_; (with_reducible refine (spec_Decide.calls k _ _ t497 t500 t501 t502 _ _ t503 t506 _ _ t507 _ _ t510 _ _ t513 _ _ t516 t519 t522 t523 t524 t525 t528 t529 t532 t535 t538 _ ?side1 ?side2 ?side3 ?side4 ?side5 ?side6 ?side7 ?side8 ?side9 ?side10 ?side11 ?side12 A14.out).mono ?_); (case side1 => exact cr HO499); (case side2 => exact cl HO499); (case side3 => exact cr HO505); (case side4 => exact cl HO505); (case side5 => exact cr HO509); (case side6 => exact cl HO509); (case side7 => exact cr HO512); (case side8 => exact cl HO512); (case side9 => exact cr HO515); (case side10 => exact cl HO515); (case side11 => exact cr HO518); (case side12 => exact cl HO518); rintro e w28 ⟨v520, v526, v530, v533, v536, rfl, ho0, ho1, ho2, ho3, ho4, hb⟩; refine ⟨_, rfl, ?_⟩; replace HO518 := kr HO518 hb; have HO521 := dk (Kd.R_lower (Kd.R_new' ho0 (rt HO499)) (below_size (bb HB))); replace HO499 := ke HO499 ho0 hb; have HO527 := dk (Kd.R_lower (Kd.R_new' (Kd.R_new' (Kd.R_new' ho1 (rt HO505)) (rt HO512)) (rt HO515)) (below_size (bb HB))); have HO531 := dk (Kd.R_lower (Kd.R_new' ho2 (rt HO509)) (below_size (bb HB))); replace HO509 := ke HO509 ho2 hb; have HO534 := dk (Kd.R_lower (Kd.R_new' (Kd.R_new' (Kd.R_new' ho3 (rt HO505)) (rt HO512)) (rt HO515)) (below_size (bb HB))); have HO537 := dk (Kd.R_lower (Kd.R_new' (Kd.R_new' (Kd.R_new' ho4 (rt HO505)) (rt HO512)) (rt HO515)) (below_size (bb HB))); replace HO505 := dk (Kd.R_mono (Kd.R_told (Kd.R_told (Kd.R_told (Kd.R_old (rr HO505) hb) (Kd.R_base ho1)) (Kd.R_base ho3)) (Kd.R_base ho4)) (fun _ h_ => h_.1)); replace HO512 := dk (Kd.R_mono (Kd.R_told (Kd.R_told (Kd.R_told (Kd.R_old (rr HO512) hb) (Kd.R_base ho1)) (Kd.R_base ho3)) (Kd.R_base ho4)) (fun _ h_ => h_.1)); replace HO515 := dk (Kd.R_mono (Kd.R_told (Kd.R_told (Kd.R_told (Kd.R_old (rr HO515) hb) (Kd.R_base ho1)) (Kd.R_base ho3)) (Kd.R_base ho4)) (fun _ h_ => h_.1)); replace BK494 := kb BK494 hb; replace HB := hs_ HB hb; (try clear hb hb2 hk hi ho0 ho1 ho2 ho3 ho4)) | ((with_reducible refine gate_dst (N := 6) rfl ?_); refine bx (N := 6) (cs := #[.slice none 0 0, .int .i64 0, .int .i64 0, .int .i64 0, .slice none 0 0, .bool false, .slice none 0 0, .slice none 0 0, .slice none 0 0]) (t := 36) ?_; intro gb539 hg w29 hbox hb; replace HO499 := kr HO499 hb; replace HO505 := kr HO505 hb; replace HO509 := kr HO509 hb; replace HO512 := kr HO512 hb; replace HO515 := kr HO515 hb; replace HO518 := kr HO518 hb; replace HO521 := kr HO521 hb; replace HO527 := kr HO527 hb; replace HO531 := kr HO531 hb; replace HO534 := kr HO534 hb; replace HO537 := kr HO537 hb; have BK539 := dk (hbox); have GW539 := gs hg HB; have GE539 := gs hg HB; replace HB := hs_ HB hb; have NB494_539 := gn hg BK494; have NB539_494 := gm hg BK494; replace BK494 := kb BK494 hb; clear hb hbox hg; obtain ⟨Ao30, co30, eo30⟩ := Kd.R_slice HO521.out; subst eo30; have hnb31 := NB539_494.out; have hnc31 := NB494_539.out; have ⟨z32_0, z32_1, z32_2, z32_3, z32_4, z32_5, z32_6, z32_7, z32_8, v32_0, v32_1, v32_2, v32_3, v32_4, v32_5, v32_6, v32_7, v32_8⟩ := rz9 BK539; obtain ⟨Ao33, co33, eo33⟩ := Kd.R_slice HO527.out; subst eo33; obtain ⟨Ao34, co34, eo34⟩ := Kd.R_slice HO531.out; subst eo34; obtain ⟨Ao35, co35, eo35⟩ := Kd.R_slice HO534.out; subst eo35; obtain ⟨Ao36, co36, eo36⟩ := Kd.R_slice HO537.out; subst eo36; have ⟨z37_0, z37_1, z37_2, z37_3, z37_4, z37_5, z37_6, z37_7, z37_8, v37_0, v37_1, v37_2, v37_3, v37_4, v37_5, v37_6, v37_7, v37_8⟩ := rz9 BK494) | ((with_reducible refine gate_callee (f := 13) rfl ?_); refine gl (some 36) Try.func13 #[.agg #[.slice A0_0 l0_0.length c0_0, .int .i64 a0_1, .int .i64 a0_2, .int .i64 a0_3, .slice A0_4 l0_4.length c0_4, .bool a0_5, .slice A0_6 l0_6.length c0_6, .slice A0_7 l0_7.length c0_7, .slice A0_8 l0_8.length c0_8]] ?_; (with_reducible refine (laws_toBook.calls k _ _ l0_0 a0_1 a0_2 a0_3 _ _ l0_4 a0_5 _ _ l0_6 _ _ l0_7 _ _ l0_8 t540 t543 t544 t545 t546 t549 t550 t553 t556 _ ?side1 ?side2 ?side3 ?side4 ?side5 ?side6 ?side7 ?side8 ?side9 ?side10 A15.out).mono ?_); (case side1 => exact Kd.C_below HR0_0.out (bb HB)); (case side2 => exact HC0_0.out); (case side3 => exact Kd.C_below HR0_4.out (bb HB)); (case side4 => exact HC0_4.out); (case side5 => exact Kd.C_below HR0_6.out (bb HB)); (case side6 => exact HC0_6.out); (case side7 => exact Kd.C_below HR0_7.out (bb HB)); (case side8 => exact HC0_7.out); (case side9 => exact Kd.C_below HR0_8.out (bb HB)); (case side10 => exact HC0_8.out); rintro e w38 ⟨v541, v547, v551, v554, v557, rfl, ho0, ho1, ho2, ho3, ho4, hb⟩; refine ⟨_, rfl, ?_⟩; replace HO518 := kf HO518 BK539 hb; have HO542 := dk (Kd.R_lower (Kd.R_new' (Kd.R_new' ho0 (Kd.R_lt (rf HO499 BK539 (fun _ h_ => h_.1)))) (Kd.R_lt (rf HO521 BK539 (fun _ h_ => h_.1)))) (below_size (bb HB))); replace HO499 := dk (Kd.R_elder' (rf HO499 BK539 (fun _ h_ => h_.1)) (Kd.R_base ho0) hb); replace HO521 := dk (Kd.R_elder' (rf HO521 BK539 (fun _ h_ => h_.1)) (Kd.R_base ho0) hb); have HO548 := dk (Kd.R_lower (Kd.R_new' (Kd.R_new' (Kd.R_new' (Kd.R_new' (Kd.R_new' (Kd.R_new' ho1 (Kd.R_lt (rf HO505 BK539 (fun _ h_ => h_.1)))) (Kd.R_lt (rf HO512 BK539 (fun _ h_ => h_.1)))) (Kd.R_lt (rf HO515 BK539 (fun _ h_ => h_.1)))) (Kd.R_lt (rf HO527 BK539 (fun _ h_ => h_.1)))) (Kd.R_lt (rf HO534 BK539 (fun _ h_ => h_.1)))) (Kd.R_lt (rf HO537 BK539 (fun _ h_ => h_.1)))) (below_size (bb HB))); have HO552 := dk (Kd.R_lower (Kd.R_new' (Kd.R_new' ho2 (Kd.R_lt (rf HO509 BK539 (fun _ h_ => h_.1)))) (Kd.R_lt (rf HO531 BK539 (fun _ h_ => h_.1)))) (below_size (bb HB))); replace HO509 := dk (Kd.R_elder' (rf HO509 BK539 (fun _ h_ => h_.1)) (Kd.R_base ho2) hb); replace HO531 := dk (Kd.R_elder' (rf HO531 BK539 (fun _ h_ => h_.1)) (Kd.R_base ho2) hb); have HO555 := dk (Kd.R_lower (Kd.R_new' (Kd.R_new' (Kd.R_new' (Kd.R_new' (Kd.R_new' (Kd.R_new' ho3 (Kd.R_lt (rf HO505 BK539 (fun _ h_ => h_.1)))) (Kd.R_lt (rf HO512 BK539 (fun _ h_ => h_.1)))) (Kd.R_lt (rf HO515 BK539 (fun _ h_ => h_.1)))) (Kd.R_lt (rf HO527 BK539 (fun _ h_ => h_.1)))) (Kd.R_lt (rf HO534 BK539 (fun _ h_ => h_.1)))) (Kd.R_lt (rf HO537 BK539 (fun _ h_ => h_.1)))) (below_size (bb HB))); have HO558 := dk (Kd.R_lower (Kd.R_new' (Kd.R_new' (Kd.R_new' (Kd.R_new' (Kd.R_new' (Kd.R_new' ho4 (Kd.R_lt (rf HO505 BK539 (fun _ h_ => h_.1)))) (Kd.R_lt (rf HO512 BK539 (fun _ h_ => h_.1)))) (Kd.R_lt (rf HO515 BK539 (fun _ h_ => h_.1)))) (Kd.R_lt (rf HO527 BK539 (fun _ h_ => h_.1)))) (Kd.R_lt (rf HO534 BK539 (fun _ h_ => h_.1)))) (Kd.R_lt (rf HO537 BK539 (fun _ h_ => h_.1)))) (below_size (bb HB))); replace HO505 := dk (Kd.R_mono (Kd.R_told (Kd.R_told (Kd.R_told (Kd.R_old (rf HO505 BK539 (fun _ h_ => h_.1)) hb) (Kd.R_base ho1)) (Kd.R_base ho3)) (Kd.R_base ho4)) (fun _ h_ => h_.1)); replace HO512 := dk (Kd.R_mono (Kd.R_told (Kd.R_told (Kd.R_told (Kd.R_old (rf HO512 BK539 (fun _ h_ => h_.1)) hb) (Kd.R_base ho1)) (Kd.R_base ho3)) (Kd.R_base ho4)) (fun _ h_ => h_.1)); replace HO515 := dk (Kd.R_mono (Kd.R_told (Kd.R_told (Kd.R_told (Kd.R_old (rf HO515 BK539 (fun _ h_ => h_.1)) hb) (Kd.R_base ho1)) (Kd.R_base ho3)) (Kd.R_base ho4)) (fun _ h_ => h_.1)); replace HO527 := dk (Kd.R_mono (Kd.R_told (Kd.R_told (Kd.R_told (Kd.R_old (rf HO527 BK539 (fun _ h_ => h_.1)) hb) (Kd.R_base ho1)) (Kd.R_base ho3)) (Kd.R_base ho4)) (fun _ h_ => h_.1)); replace HO534 := dk (Kd.R_mono (Kd.R_told (Kd.R_told (Kd.R_told (Kd.R_old (rf HO534 BK539 (fun _ h_ => h_.1)) hb) (Kd.R_base ho1)) (Kd.R_base ho3)) (Kd.R_base ho4)) (fun _ h_ => h_.1)); replace HO537 := dk (Kd.R_mono (Kd.R_told (Kd.R_told (Kd.R_told (Kd.R_old (rf HO537 BK539 (fun _ h_ => h_.1)) hb) (Kd.R_base ho1)) (Kd.R_base ho3)) (Kd.R_base ho4)) (fun _ h_ => h_.1)); replace BK494 := dk (blk_below (bf NB494_539.out BK494) hb); replace BK539 := dk (blk_below (g := gb539) (o := .cells #[.slice Ao30 t519.length co30, .int .i64 t522, .int .i64 t523, .int .i64 t524, .slice Ao33 t525.length co33, .bool t528, .slice Ao34 t529.length co34, .slice Ao35 t532.length co35, .slice Ao36 t535.length co36] 36 (0, 0)) (bp BK539) hb); replace HB := hs_ HB hb; (try clear hb hb2 hk hi ho0 ho1 ho2 ho3 ho4)) | ((with_reducible refine gate_dst (N := 8) rfl ?_); refine bx (N := 8) (cs := #[.slice none 0 0, .int .i64 0, .int .i64 0, .int .i64 0, .slice none 0 0, .bool false, .slice none 0 0, .slice none 0 0, .slice none 0 0]) (t := 36) ?_; intro gb559 hg w39 hbox hb; replace HO499 := kr HO499 hb; replace HO505 := kr HO505 hb; replace HO509 := kr HO509 hb; replace HO512 := kr HO512 hb; replace HO515 := kr HO515 hb; replace HO518 := kr HO518 hb; replace HO521 := kr HO521 hb; replace HO527 := kr HO527 hb; replace HO531 := kr HO531 hb; replace HO534 := kr HO534 hb; replace HO537 := kr HO537 hb; replace HO542 := kr HO542 hb; replace HO548 := kr HO548 hb; replace HO552 := kr HO552 hb; replace HO555 := kr HO555 hb; replace HO558 := kr HO558 hb; have BK559 := dk (hbox); have GW559 := gs hg HB; have GE559 := gs hg HB; replace HB := hs_ HB hb; have NB494_559 := gn hg BK494; have NB559_494 := gm hg BK494; replace BK494 := kb BK494 hb; have NB539_559 := gn hg BK539; have NB559_539 := gm hg BK539; replace BK539 := kb BK539 hb; clear hb hbox hg; obtain ⟨Ao40, co40, eo40⟩ := Kd.R_slice HO542.out; subst eo40; have hnb41 := NB559_494.out; have hnc41 := NB494_559.out; have hnb42 := NB559_539.out; have hnc42 := NB539_559.out; have ⟨z43_0, z43_1, z43_2, z43_3, z43_4, z43_5, z43_6, z43_7, z43_8, v43_0, v43_1, v43_2, v43_3, v43_4, v43_5, v43_6, v43_7, v43_8⟩ := rz9 BK559; obtain ⟨Ao44, co44, eo44⟩ := Kd.R_slice HO548.out; subst eo44; obtain ⟨Ao45, co45, eo45⟩ := Kd.R_slice HO552.out; subst eo45; obtain ⟨Ao46, co46, eo46⟩ := Kd.R_slice HO555.out; subst eo46; obtain ⟨Ao47, co47, eo47⟩ := Kd.R_slice HO558.out; subst eo47) | ((with_reducible refine gate_callee (f := 14) rfl ?_); refine gl (some 38) Try.func14 #[.slice A1 l1.length c1] ?_; (with_reducible refine (laws_toProtestS.calls k _ _ l1 t560 _ ?side1 ?side2 A16.out).mono ?_); (case side1 => exact Kd.C_below HR1.out (bb HB)); (case side2 => exact HC1.out); rintro e w48 ⟨v561, rfl, ho0, hb⟩; refine ⟨_, rfl, ?_⟩; replace HO499 := kf HO499 BK559 hb; replace HO505 := kf HO505 BK559 hb; replace HO509 := kf HO509 BK559 hb; replace HO512 := kf HO512 BK559 hb; replace HO515 := kf HO515 BK559 hb; replace HO521 := kf HO521 BK559 hb; replace HO527 := kf HO527 BK559 hb; replace HO531 := kf HO531 BK559 hb; replace HO534 := kf HO534 BK559 hb; replace HO537 := kf HO537 BK559 hb; replace HO542 := kf HO542 BK559 hb; replace HO548 := kf HO548 BK559 hb; replace HO552 := kf HO552 BK559 hb; replace HO555 := kf HO555 BK559 hb; replace HO558 := kf HO558 BK559 hb; have HO562 := dk (Kd.R_lower (Kd.R_new' ho0 (Kd.R_lt (rf HO518 BK559 (fun _ h_ => h_.1)))) (below_size (bb HB))); replace HO518 := dk (Kd.R_elder' (rf HO518 BK559 (fun _ h_ => h_.1)) (Kd.R_base ho0) hb); replace BK494 := dk (blk_below (bf NB494_559.out BK494) hb); replace BK539 := dk (blk_below (bf NB539_559.out BK539) hb); replace BK559 := dk (blk_below (g := gb559) (o := .cells #[.slice Ao40 t540.length co40, .int .i64 t543, .int .i64 t544, .int .i64 t545, .slice Ao44 t546.length co44, .bool t549, .slice Ao45 t550.length co45, .slice Ao46 t553.length co46, .slice Ao47 t556.length co47] 36 (0, 0)) (bp BK559) hb); replace HB := hs_ HB hb; (try clear hb hb2 hk hi ho0); have ⟨z49_0, z49_1, z49_2, z49_3, z49_4, z49_5, z49_6, z49_7, z49_8, v49_0, v49_1, v49_2, v49_3, v49_4, v49_5, v49_6, v49_7, v49_8⟩ := rz9 BK559; obtain ⟨Ao50, co50, eo50⟩ := Kd.R_slice HO562.out; subst eo50) | ((with_reducible refine gate_callee (f := 15) rfl ?_); refine gl (some 42) Try.func15 #[.agg #[.slice Ao40 t540.length co40, .int .i64 t543, .int .i64 t544, .int .i64 t545, .slice Ao44 t546.length co44, .bool t549, .slice Ao45 t550.length co45, .slice Ao46 t553.length co46, .slice Ao47 t556.length co47], .slice Ao50 t560.length co50] ?_; (with_reducible refine (impl_Decide.calls k _ _ t540 t543 t544 t545 _ _ t546 t549 _ _ t550 _ _ t553 _ _ t556 _ _ t560 t563 t566 t567 t568 t569 t572 t573 t576 t579 t582 _ ?side1 ?side2 ?side3 ?side4 ?side5 ?side6 ?side7 ?side8 ?side9 ?side10 ?side11 ?side12 A17.out).mono ?_); (case side1 => exact cr HO542); (case side2 => exact cl HO542); (case side3 => exact cr HO548); (case side4 => exact cl HO548); (case side5 => exact cr HO552); (case side6 => exact cl HO552); (case side7 => exact cr HO555); (case side8 => exact cl HO555); (case side9 => exact cr HO558); (case side10 => exact cl HO558); (case side11 => exact cr HO562); (case side12 => exact cl HO562); rintro e w51 ⟨v564, v570, v574, v577, v580, rfl, ho0, ho1, ho2, ho3, ho4, hb⟩; refine ⟨_, rfl, ?_⟩; replace HO518 := kr HO518 hb; replace HO562 := kr HO562 hb; have HO565 := dk (Kd.R_lower (Kd.R_new' (Kd.R_new' (Kd.R_new' ho0 (rt HO499)) (rt HO521)) (rt HO542)) (below_size (bb HB))); replace HO499 := ke HO499 ho0 hb; replace HO521 := ke HO521 ho0 hb; replace HO542 := ke HO542 ho0 hb; have HO571 := dk (Kd.R_lower (Kd.R_new' (Kd.R_new' (Kd.R_new' (Kd.R_new' (Kd.R_new' (Kd.R_new' (Kd.R_new' (Kd.R_new' (Kd.R_new' ho1 (rt HO505)) (rt HO512)) (rt HO515)) (rt HO527)) (rt HO534)) (rt HO537)) (rt HO548)) (rt HO555)) (rt HO558)) (below_size (bb HB))); have HO575 := dk (Kd.R_lower (Kd.R_new' (Kd.R_new' (Kd.R_new' ho2 (rt HO509)) (rt HO531)) (rt HO552)) (below_size (bb HB))); replace HO509 := ke HO509 ho2 hb; replace HO531 := ke HO531 ho2 hb; replace HO552 := ke HO552 ho2 hb; have HO578 := dk (Kd.R_lower (Kd.R_new' (Kd.R_new' (Kd.R_new' (Kd.R_new' (Kd.R_new' (Kd.R_new' (Kd.R_new' (Kd.R_new' (Kd.R_new' ho3 (rt HO505)) (rt HO512)) (rt HO515)) (rt HO527)) (rt HO534)) (rt HO537)) (rt HO548)) (rt HO555)) (rt HO558)) (below_size (bb HB))); have HO581 := dk (Kd.R_lower (Kd.R_new' (Kd.R_new' (Kd.R_new' (Kd.R_new' (Kd.R_new' (Kd.R_new' (Kd.R_new' (Kd.R_new' (Kd.R_new' ho4 (rt HO505)) (rt HO512)) (rt HO515)) (rt HO527)) (rt HO534)) (rt HO537)) (rt HO548)) (rt HO555)) (rt HO558)) (below_size (bb HB))); replace HO505 := dk (Kd.R_mono (Kd.R_told (Kd.R_told (Kd.R_told (Kd.R_old (rr HO505) hb) (Kd.R_base ho1)) (Kd.R_base ho3)) (Kd.R_base ho4)) (fun _ h_ => h_.1)); replace HO512 := dk (Kd.R_mono (Kd.R_told (Kd.R_told (Kd.R_told (Kd.R_old (rr HO512) hb) (Kd.R_base ho1)) (Kd.R_base ho3)) (Kd.R_base ho4)) (fun _ h_ => h_.1)); replace HO515 := dk (Kd.R_mono (Kd.R_told (Kd.R_told (Kd.R_told (Kd.R_old (rr HO515) hb) (Kd.R_base ho1)) (Kd.R_base ho3)) (Kd.R_base ho4)) (fun _ h_ => h_.1)); replace HO527 := dk (Kd.R_mono (Kd.R_told (Kd.R_told (Kd.R_told (Kd.R_old (rr HO527) hb) (Kd.R_base ho1)) (Kd.R_base ho3)) (Kd.R_base ho4)) (fun _ h_ => h_.1)); replace HO534 := dk (Kd.R_mono (Kd.R_told (Kd.R_told (Kd.R_told (Kd.R_old (rr HO534) hb) (Kd.R_base ho1)) (Kd.R_base ho3)) (Kd.R_base ho4)) (fun _ h_ => h_.1)); replace HO537 := dk (Kd.R_mono (Kd.R_told (Kd.R_told (Kd.R_told (Kd.R_old (rr HO537) hb) (Kd.R_base ho1)) (Kd.R_base ho3)) (Kd.R_base ho4)) (fun _ h_ => h_.1)); replace HO548 := dk (Kd.R_mono (Kd.R_told (Kd.R_told (Kd.R_told (Kd.R_old (rr HO548) hb) (Kd.R_base ho1)) (Kd.R_base ho3)) (Kd.R_base ho4)) (fun _ h_ => h_.1)); replace HO555 := dk (Kd.R_mono (Kd.R_told (Kd.R_told (Kd.R_told (Kd.R_old (rr HO555) hb) (Kd.R_base ho1)) (Kd.R_base ho3)) (Kd.R_base ho4)) (fun _ h_ => h_.1)); replace HO558 := dk (Kd.R_mono (Kd.R_told (Kd.R_told (Kd.R_told (Kd.R_old (rr HO558) hb) (Kd.R_base ho1)) (Kd.R_base ho3)) (Kd.R_base ho4)) (fun _ h_ => h_.1)); replace BK494 := kb BK494 hb; replace BK539 := kb BK539 hb; replace BK559 := kb BK559 hb; replace HB := hs_ HB hb; (try clear hb hb2 hk hi ho0 ho1 ho2 ho3 ho4)) | ((with_reducible refine gate_dst (N := 10) rfl ?_); refine bx (N := 10) (cs := #[.slice none 0 0, .int .i64 0, .int .i64 0, .int .i64 0, .slice none 0 0, .bool false, .slice none 0 0, .slice none 0 0, .slice none 0 0]) (t := 36) ?_; intro gb583 hg w52 hbox hb; replace HO499 := kr HO499 hb; replace HO505 := kr HO505 hb; replace HO509 := kr HO509 hb; replace HO512 := kr HO512 hb; replace HO515 := kr HO515 hb; replace HO518 := kr HO518 hb; replace HO521 := kr HO521 hb; replace HO527 := kr HO527 hb; replace HO531 := kr HO531 hb; replace HO534 := kr HO534 hb; replace HO537 := kr HO537 hb; replace HO542 := kr HO542 hb; replace HO548 := kr HO548 hb; replace HO552 := kr HO552 hb; replace HO555 := kr HO555 hb; replace HO558 := kr HO558 hb; replace HO562 := kr HO562 hb; replace HO565 := kr HO565 hb; replace HO571 := kr HO571 hb; replace HO575 := kr HO575 hb; replace HO578 := kr HO578 hb; replace HO581 := kr HO581 hb; have BK583 := dk (hbox); have GW583 := gs hg HB; have GE583 := gs hg HB; replace HB := hs_ HB hb; have NB494_583 := gn hg BK494; have NB583_494 := gm hg BK494; replace BK494 := kb BK494 hb; have NB539_583 := gn hg BK539; have NB583_539 := gm hg BK539; replace BK539 := kb BK539 hb; have NB559_583 := gn hg BK559; have NB583_559 := gm hg BK559; replace BK559 := kb BK559 hb; clear hb hbox hg; obtain ⟨Ao53, co53, eo53⟩ := Kd.R_slice HO565.out; subst eo53; have hnb54 := NB583_494.out; have hnc54 := NB494_583.out; have hnb55 := NB583_539.out; have hnc55 := NB539_583.out; have hnb56 := NB583_559.out; have hnc56 := NB559_583.out; have ⟨z57_0, z57_1, z57_2, z57_3, z57_4, z57_5, z57_6, z57_7, z57_8, v57_0, v57_1, v57_2, v57_3, v57_4, v57_5, v57_6, v57_7, v57_8⟩ := rz9 BK583; obtain ⟨Ao58, co58, eo58⟩ := Kd.R_slice HO571.out; subst eo58; obtain ⟨Ao59, co59, eo59⟩ := Kd.R_slice HO575.out; subst eo59; obtain ⟨Ao60, co60, eo60⟩ := Kd.R_slice HO578.out; subst eo60; obtain ⟨Ao61, co61, eo61⟩ := Kd.R_slice HO581.out; subst eo61))
   (try simp only [Act.put, List.setIfInBounds_toArray, List.set_cons_zero, List.set_cons_succ])
   go_cut [53] (fun v53 wc => ∃ (kq : Nat) (x53_17 : Bool), v53 = .bool x53_17 ∧ Aside0 (laws_FnExactDecide.j0 kq l1 t538 t560 t582 x53_17 l0_0 a0_1 a0_2 a0_3 l0_4 a0_5 l0_6 l0_7 l0_8 t519 t522 t523 t524 t525 t528 t529 t532 t535 t540 t543 t544 t545 t546 t549 t550 t553 t556 t563 t566 t567 t568 t569 t572 t573 t576 t579 = some r) ∧ Aside0 (kq ≤ k) ∧ Aside0 (Kd.R k50 50 wc w.heap.size (fun _ => True) (.slice Ao50 t560.length co50) t560) ∧ Aside0 (Kd.R k139 139 wc w.heap.size (fun k_ => nb k_ Ao40 t540.length co40 ∧ nb k_ Ao53 t563.length co53) (.slice Ao30 t519.length co30) t519) ∧ Aside0 (Kd.R (Kd.int .i64) 3 wc w.heap.size (fun k_ => nb k_ Ao35 t532.length co35 ∧ nb k_ Ao36 t535.length co36 ∧ nb k_ Ao44 t546.length co44 ∧ nb k_ Ao46 t553.length co46 ∧ nb k_ Ao47 t556.length co47 ∧ nb k_ Ao58 t569.length co58 ∧ nb k_ Ao60 t576.length co60 ∧ nb k_ Ao61 t579.length co61) (.slice Ao33 t525.length co33) t525) ∧ Aside0 (Kd.R k95 95 wc w.heap.size (fun k_ => nb k_ Ao45 t550.length co45 ∧ nb k_ Ao59 t573.length co59) (.slice Ao34 t529.length co34) t529) ∧ Aside0 (Kd.R (Kd.int .i64) 3 wc w.heap.size (fun k_ => nb k_ Ao33 t525.length co33 ∧ nb k_ Ao36 t535.length co36 ∧ nb k_ Ao44 t546.length co44 ∧ nb k_ Ao46 t553.length co46 ∧ nb k_ Ao47 t556.length co47 ∧ nb k_ Ao58 t569.length co58 ∧ nb k_ Ao60 t576.length co60 ∧ nb k_ Ao61 t579.length co61) (.slice Ao35 t532.length co35) t532) ∧ Aside0 (Kd.R (Kd.int .i64) 3 wc w.heap.size (fun k_ => nb k_ Ao33 t525.length co33 ∧ nb k_ Ao35 t532.length co35 ∧ nb k_ Ao44 t546.length co44 ∧ nb k_ Ao46 t553.length co46 ∧ nb k_ Ao47 t556.length co47 ∧ nb k_ Ao58 t569.length co58 ∧ nb k_ Ao60 t576.length co60 ∧ nb k_ Ao61 t579.length co61) (.slice Ao36 t535.length co36) t535) ∧ Aside0 (Kd.R k139 139 wc w.heap.size (fun k_ => nb k_ Ao30 t519.length co30 ∧ nb k_ Ao53 t563.length co53) (.slice Ao40 t540.length co40) t540) ∧ Aside0 (Kd.R (Kd.int .i64) 3 wc w.heap.size (fun k_ => nb k_ Ao33 t525.length co33 ∧ nb k_ Ao35 t532.length co35 ∧ nb k_ Ao36 t535.length co36 ∧ nb k_ Ao46 t553.length co46 ∧ nb k_ Ao47 t556.length co47 ∧ nb k_ Ao58 t569.length co58 ∧ nb k_ Ao60 t576.length co60 ∧ nb k_ Ao61 t579.length co61) (.slice Ao44 t546.length co44) t546) ∧ Aside0 (Kd.R k95 95 wc w.heap.size (fun k_ => nb k_ Ao34 t529.length co34 ∧ nb k_ Ao59 t573.length co59) (.slice Ao45 t550.length co45) t550) ∧ Aside0 (Kd.R (Kd.int .i64) 3 wc w.heap.size (fun k_ => nb k_ Ao33 t525.length co33 ∧ nb k_ Ao35 t532.length co35 ∧ nb k_ Ao36 t535.length co36 ∧ nb k_ Ao44 t546.length co44 ∧ nb k_ Ao47 t556.length co47 ∧ nb k_ Ao58 t569.length co58 ∧ nb k_ Ao60 t576.length co60 ∧ nb k_ Ao61 t579.length co61) (.slice Ao46 t553.length co46) t553) ∧ Aside0 (Kd.R (Kd.int .i64) 3 wc w.heap.size (fun k_ => nb k_ Ao33 t525.length co33 ∧ nb k_ Ao35 t532.length co35 ∧ nb k_ Ao36 t535.length co36 ∧ nb k_ Ao44 t546.length co44 ∧ nb k_ Ao46 t553.length co46 ∧ nb k_ Ao58 t569.length co58 ∧ nb k_ Ao60 t576.length co60 ∧ nb k_ Ao61 t579.length co61) (.slice Ao47 t556.length co47) t556) ∧ Aside0 (Kd.R k139 139 wc w.heap.size (fun k_ => nb k_ Ao30 t519.length co30 ∧ nb k_ Ao40 t540.length co40) (.slice Ao53 t563.length co53) t563) ∧ Aside0 (Kd.R (Kd.int .i64) 3 wc w.heap.size (fun k_ => nb k_ Ao33 t525.length co33 ∧ nb k_ Ao35 t532.length co35 ∧ nb k_ Ao36 t535.length co36 ∧ nb k_ Ao44 t546.length co44 ∧ nb k_ Ao46 t553.length co46 ∧ nb k_ Ao47 t556.length co47 ∧ nb k_ Ao60 t576.length co60 ∧ nb k_ Ao61 t579.length co61) (.slice Ao58 t569.length co58) t569) ∧ Aside0 (Kd.R k95 95 wc w.heap.size (fun k_ => nb k_ Ao34 t529.length co34 ∧ nb k_ Ao45 t550.length co45) (.slice Ao59 t573.length co59) t573) ∧ Aside0 (Kd.R (Kd.int .i64) 3 wc w.heap.size (fun k_ => nb k_ Ao33 t525.length co33 ∧ nb k_ Ao35 t532.length co35 ∧ nb k_ Ao36 t535.length co36 ∧ nb k_ Ao44 t546.length co44 ∧ nb k_ Ao46 t553.length co46 ∧ nb k_ Ao47 t556.length co47 ∧ nb k_ Ao58 t569.length co58 ∧ nb k_ Ao61 t579.length co61) (.slice Ao60 t576.length co60) t576) ∧ Aside0 (Kd.R (Kd.int .i64) 3 wc w.heap.size (fun k_ => nb k_ Ao33 t525.length co33 ∧ nb k_ Ao35 t532.length co35 ∧ nb k_ Ao36 t535.length co36 ∧ nb k_ Ao44 t546.length co44 ∧ nb k_ Ao46 t553.length co46 ∧ nb k_ Ao47 t556.length co47 ∧ nb k_ Ao58 t569.length co58 ∧ nb k_ Ao60 t576.length co60) (.slice Ao61 t579.length co61) t579) ∧ Aside0 (wc.heap[gb494]? = some (.cells #[(.slice A0_0 l0_0.length c0_0), .int .i64 a0_1, .int .i64 a0_2, .int .i64 a0_3, (.slice A0_4 l0_4.length c0_4), .bool a0_5, (.slice A0_6 l0_6.length c0_6), (.slice A0_7 l0_7.length c0_7), (.slice A0_8 l0_8.length c0_8)] 28 (0, 0))) ∧ Aside0 (wc.heap[gb539]? = some (.cells #[(.slice Ao30 t519.length co30), .int .i64 t522, .int .i64 t523, .int .i64 t524, (.slice Ao33 t525.length co33), .bool t528, (.slice Ao34 t529.length co34), (.slice Ao35 t532.length co35), (.slice Ao36 t535.length co36)] 36 (0, 0))) ∧ Aside0 (wc.heap[gb559]? = some (.cells #[(.slice Ao40 t540.length co40), .int .i64 t543, .int .i64 t544, .int .i64 t545, (.slice Ao44 t546.length co44), .bool t549, (.slice Ao45 t550.length co45), (.slice Ao46 t553.length co46), (.slice Ao47 t556.length co47)] 36 (0, 0))) ∧ Aside0 (wc.heap[gb583]? = some (.cells #[(.slice Ao53 t563.length co53), .int .i64 t566, .int .i64 t567, .int .i64 t568, (.slice Ao58 t569.length co58), .bool t572, (.slice Ao59 t573.length co59), (.slice Ao60 t576.length co60), (.slice Ao61 t579.length co61)] 36 (0, 0))) ∧ Aside0 (Below w.heap.size w wc))
   case first =>
    have H := HC18.out
    clear HC18
    replace H := Option.bind_eq_some_iff.mp H
    obtain ⟨t584, A620, H⟩ := H
    try dsimp only at H
    have A62 := dk A620
    clear A620
    by_cases c63 : t584 = true
    ·subst c63
     rw [if_pos rfl] at H
     have H' := dk H
     clear H
     have hnb64 := NB583_494.out
     have hnc64 := NB494_583.out
     have hnb65 := NB583_539.out
     have hnc65 := NB539_583.out
     have hnb66 := NB583_559.out
     have hnc66 := NB559_583.out
     have ⟨z67_0, z67_1, z67_2, z67_3, z67_4, z67_5, z67_6, z67_7, z67_8, v67_0, v67_1, v67_2, v67_3, v67_4, v67_5, v67_6, v67_7, v67_8⟩ := rz9 BK583
     have hnb68 := NB539_494.out
     have hnc68 := NB494_539.out
     have hnb69 := NB539_559.out
     have hnc69 := NB559_539.out
     have ⟨z70_0, z70_1, z70_2, z70_3, z70_4, z70_5, z70_6, z70_7, z70_8, v70_0, v70_1, v70_2, v70_3, v70_4, v70_5, v70_6, v70_7, v70_8⟩ := rz9 BK539
     go_wp2_with (first | ((with_reducible refine gate_callee (f := 16) rfl ?_); refine gl (some 47) Try.func16 #[.agg #[.slice Ao53 t563.length co53, .int .i64 t566, .int .i64 t567, .int .i64 t568, .slice Ao58 t569.length co58, .bool t572, .slice Ao59 t573.length co59, .slice Ao60 t576.length co60, .slice Ao61 t579.length co61], .agg #[.slice Ao30 t519.length co30, .int .i64 t522, .int .i64 t523, .int .i64 t524, .slice Ao33 t525.length co33, .bool t528, .slice Ao34 t529.length co34, .slice Ao35 t532.length co35, .slice Ao36 t535.length co36]] ?_; (with_reducible refine (laws_eqBook.calls k _ _ t563 t566 t567 t568 _ _ t569 t572 _ _ t573 _ _ t576 _ _ t579 _ _ t519 t522 t523 t524 _ _ t525 t528 _ _ t529 _ _ t532 _ _ t535 true _ ?side1 ?side2 ?side3 ?side4 ?side5 ?side6 ?side7 ?side8 ?side9 ?side10 ?side11 ?side12 ?side13 ?side14 ?side15 ?side16 ?side17 ?side18 ?side19 ?side20 A62.out).mono ?_); (case side1 => exact cf HO565 BK583); (case side2 => exact cl HO565); (case side3 => exact cf HO571 BK583); (case side4 => exact cl HO571); (case side5 => exact cf HO575 BK583); (case side6 => exact cl HO575); (case side7 => exact cf HO578 BK583); (case side8 => exact cl HO578); (case side9 => exact cf HO581 BK583); (case side10 => exact cl HO581); (case side11 => exact cf HO521 BK583); (case side12 => exact cl HO521); (case side13 => exact cf HO527 BK583); (case side14 => exact cl HO527); (case side15 => exact cf HO531 BK583); (case side16 => exact cl HO531); (case side17 => exact cf HO534 BK583); (case side18 => exact cl HO534); (case side19 => exact cf HO537 BK583); (case side20 => exact cl HO537); rintro e w71 ⟨rfl, hb⟩; refine ⟨_, rfl, ?_⟩; replace HO499 := kf HO499 BK583 hb; replace HO505 := kf HO505 BK583 hb; replace HO509 := kf HO509 BK583 hb; replace HO512 := kf HO512 BK583 hb; replace HO515 := kf HO515 BK583 hb; replace HO518 := kf HO518 BK583 hb; replace HO521 := kf HO521 BK583 hb; replace HO527 := kf HO527 BK583 hb; replace HO531 := kf HO531 BK583 hb; replace HO534 := kf HO534 BK583 hb; replace HO537 := kf HO537 BK583 hb; replace HO542 := kf HO542 BK583 hb; replace HO548 := kf HO548 BK583 hb; replace HO552 := kf HO552 BK583 hb; replace HO555 := kf HO555 BK583 hb; replace HO558 := kf HO558 BK583 hb; replace HO562 := kf HO562 BK583 hb; replace HO565 := kf HO565 BK583 hb; replace HO571 := kf HO571 BK583 hb; replace HO575 := kf HO575 BK583 hb; replace HO578 := kf HO578 BK583 hb; replace HO581 := kf HO581 BK583 hb; replace BK494 := dk (blk_below (bf NB494_583.out BK494) hb); replace BK539 := dk (blk_below (bf NB539_583.out BK539) hb); replace BK559 := dk (blk_below (bf NB559_583.out BK559) hb); replace BK583 := dk (blk_below (g := gb583) (o := .cells #[.slice Ao53 t563.length co53, .int .i64 t566, .int .i64 t567, .int .i64 t568, .slice Ao58 t569.length co58, .bool t572, .slice Ao59 t573.length co59, .slice Ao60 t576.length co60, .slice Ao61 t579.length co61] 36 (0, 0)) (bp BK583) hb); replace HB := hs_ HB hb; (try clear hb hb2 hk hi)))
     go_meet
     case rel => exact ⟨_, ((t582 != t538)), e2_, H', ⟨by first | omega | exact Nat.le_refl _⟩, ⟨ro HO562 (fun _ hk => trivial)⟩, ⟨ro HO521 (fun _ hk => ⟨hk.1.2, hk.2⟩)⟩, ⟨rp HO527⟩, ⟨ro HO531 (fun _ hk => ⟨hk.1.2, hk.2⟩)⟩, ⟨rp HO534⟩, ⟨rp HO537⟩, ⟨ro HO542 (fun _ hk => ⟨hk.1.2, hk.2⟩)⟩, ⟨rp HO548⟩, ⟨ro HO552 (fun _ hk => ⟨hk.1.2, hk.2⟩)⟩, ⟨rp HO555⟩, ⟨rp HO558⟩, ⟨ro HO565 (fun _ hk => ⟨hk.1.2, hk.2⟩)⟩, ⟨rp HO571⟩, ⟨ro HO575 (fun _ hk => ⟨hk.1.2, hk.2⟩)⟩, ⟨rp HO578⟩, ⟨rp HO581⟩, ⟨bk BK494⟩, ⟨bk BK539⟩, ⟨bk BK559⟩, ⟨bk BK583⟩, ⟨bb HB⟩⟩
    ·replace c63 := Bool.eq_false_iff.mpr c63
     subst c63
     rw [if_neg (show ¬ (false = true) by decide)] at H
     have H' := dk H
     clear H
     have hnb72 := NB583_494.out
     have hnc72 := NB494_583.out
     have hnb73 := NB583_539.out
     have hnc73 := NB539_583.out
     have hnb74 := NB583_559.out
     have hnc74 := NB559_583.out
     have ⟨z75_0, z75_1, z75_2, z75_3, z75_4, z75_5, z75_6, z75_7, z75_8, v75_0, v75_1, v75_2, v75_3, v75_4, v75_5, v75_6, v75_7, v75_8⟩ := rz9 BK583
     have hnb76 := NB539_494.out
     have hnc76 := NB494_539.out
     have hnb77 := NB539_559.out
     have hnc77 := NB559_539.out
     have ⟨z78_0, z78_1, z78_2, z78_3, z78_4, z78_5, z78_6, z78_7, z78_8, v78_0, v78_1, v78_2, v78_3, v78_4, v78_5, v78_6, v78_7, v78_8⟩ := rz9 BK539
     go_wp2_with (first | ((with_reducible refine gate_callee (f := 16) rfl ?_); refine gl (some 47) Try.func16 #[.agg #[.slice Ao53 t563.length co53, .int .i64 t566, .int .i64 t567, .int .i64 t568, .slice Ao58 t569.length co58, .bool t572, .slice Ao59 t573.length co59, .slice Ao60 t576.length co60, .slice Ao61 t579.length co61], .agg #[.slice Ao30 t519.length co30, .int .i64 t522, .int .i64 t523, .int .i64 t524, .slice Ao33 t525.length co33, .bool t528, .slice Ao34 t529.length co34, .slice Ao35 t532.length co35, .slice Ao36 t535.length co36]] ?_; (with_reducible refine (laws_eqBook.calls k _ _ t563 t566 t567 t568 _ _ t569 t572 _ _ t573 _ _ t576 _ _ t579 _ _ t519 t522 t523 t524 _ _ t525 t528 _ _ t529 _ _ t532 _ _ t535 false _ ?side1 ?side2 ?side3 ?side4 ?side5 ?side6 ?side7 ?side8 ?side9 ?side10 ?side11 ?side12 ?side13 ?side14 ?side15 ?side16 ?side17 ?side18 ?side19 ?side20 A62.out).mono ?_); (case side1 => exact cf HO565 BK583); (case side2 => exact cl HO565); (case side3 => exact cf HO571 BK583); (case side4 => exact cl HO571); (case side5 => exact cf HO575 BK583); (case side6 => exact cl HO575); (case side7 => exact cf HO578 BK583); (case side8 => exact cl HO578); (case side9 => exact cf HO581 BK583); (case side10 => exact cl HO581); (case side11 => exact cf HO521 BK583); (case side12 => exact cl HO521); (case side13 => exact cf HO527 BK583); (case side14 => exact cl HO527); (case side15 => exact cf HO531 BK583); (case side16 => exact cl HO531); (case side17 => exact cf HO534 BK583); (case side18 => exact cl HO534); (case side19 => exact cf HO537 BK583); (case side20 => exact cl HO537); rintro e w79 ⟨rfl, hb⟩; refine ⟨_, rfl, ?_⟩; replace HO499 := kf HO499 BK583 hb; replace HO505 := kf HO505 BK583 hb; replace HO509 := kf HO509 BK583 hb; replace HO512 := kf HO512 BK583 hb; replace HO515 := kf HO515 BK583 hb; replace HO518 := kf HO518 BK583 hb; replace HO521 := kf HO521 BK583 hb; replace HO527 := kf HO527 BK583 hb; replace HO531 := kf HO531 BK583 hb; replace HO534 := kf HO534 BK583 hb; replace HO537 := kf HO537 BK583 hb; replace HO542 := kf HO542 BK583 hb; replace HO548 := kf HO548 BK583 hb; replace HO552 := kf HO552 BK583 hb; replace HO555 := kf HO555 BK583 hb; replace HO558 := kf HO558 BK583 hb; replace HO562 := kf HO562 BK583 hb; replace HO565 := kf HO565 BK583 hb; replace HO571 := kf HO571 BK583 hb; replace HO575 := kf HO575 BK583 hb; replace HO578 := kf HO578 BK583 hb; replace HO581 := kf HO581 BK583 hb; replace BK494 := dk (blk_below (bf NB494_583.out BK494) hb); replace BK539 := dk (blk_below (bf NB539_583.out BK539) hb); replace BK559 := dk (blk_below (bf NB559_583.out BK559) hb); replace BK583 := dk (blk_below (g := gb583) (o := .cells #[.slice Ao53 t563.length co53, .int .i64 t566, .int .i64 t567, .int .i64 t568, .slice Ao58 t569.length co58, .bool t572, .slice Ao59 t573.length co59, .slice Ao60 t576.length co60, .slice Ao61 t579.length co61] 36 (0, 0)) (bp BK583) hb); replace HB := hs_ HB hb; (try clear hb hb2 hk hi)))
     go_meet
     case rel => exact ⟨_, (true), e2_, H', ⟨by first | omega | exact Nat.le_refl _⟩, ⟨ro HO562 (fun _ hk => trivial)⟩, ⟨ro HO521 (fun _ hk => ⟨hk.1.2, hk.2⟩)⟩, ⟨rp HO527⟩, ⟨ro HO531 (fun _ hk => ⟨hk.1.2, hk.2⟩)⟩, ⟨rp HO534⟩, ⟨rp HO537⟩, ⟨ro HO542 (fun _ hk => ⟨hk.1.2, hk.2⟩)⟩, ⟨rp HO548⟩, ⟨ro HO552 (fun _ hk => ⟨hk.1.2, hk.2⟩)⟩, ⟨rp HO555⟩, ⟨rp HO558⟩, ⟨ro HO565 (fun _ hk => ⟨hk.1.2, hk.2⟩)⟩, ⟨rp HO571⟩, ⟨ro HO575 (fun _ hk => ⟨hk.1.2, hk.2⟩)⟩, ⟨rp HO578⟩, ⟨rp HO581⟩, ⟨bk BK494⟩, ⟨bk BK539⟩, ⟨bk BK559⟩, ⟨bk BK583⟩, ⟨bb HB⟩⟩
   case rest =>
    clear HC18
    (try clear c1)
    (try clear p2)
    (try clear c3)
    (try clear c4)
    (try clear c5)
    (try clear c6)
    (try clear c7)
    (try clear c8)
    (try clear c8b0)
    (try clear c8b1)
    (try clear c10)
    (try clear c11)
    (try clear c11b0)
    (try clear c11b1)
    (try clear c12)
    (try clear c13)
    (try clear c14)
    (try clear c15)
    (try clear c16)
    (try clear c31)
    (try clear c41)
    (try clear c42)
    (try clear c54)
    (try clear c55)
    (try clear c56)
    (try clear c63)
    (try clear c64)
    (try clear c65)
    (try clear c66)
    (try clear c68)
    (try clear c69)
    (try clear c72)
    (try clear c73)
    (try clear c74)
    (try clear c76)
    (try clear c77)
    (try clear z19_0 z19_1 z19_2 z19_3 z19_4 z19_5 z19_6 z19_7 z19_8)
    (try clear z32_0 z32_1 z32_2 z32_3 z32_4 z32_5 z32_6 z32_7 z32_8)
    (try clear z37_0 z37_1 z37_2 z37_3 z37_4 z37_5 z37_6 z37_7 z37_8)
    (try clear z43_0 z43_1 z43_2 z43_3 z43_4 z43_5 z43_6 z43_7 z43_8)
    (try clear z49_0 z49_1 z49_2 z49_3 z49_4 z49_5 z49_6 z49_7 z49_8)
    (try clear z57_0 z57_1 z57_2 z57_3 z57_4 z57_5 z57_6 z57_7 z57_8)
    (try clear z67_0 z67_1 z67_2 z67_3 z67_4 z67_5 z67_6 z67_7 z67_8)
    (try clear z6_0 z6_1 z6_2 z6_3 z6_4 z6_5 z6_6 z6_7 z6_8)
    (try clear z70_0 z70_1 z70_2 z70_3 z70_4 z70_5 z70_6 z70_7 z70_8)
    (try clear z75_0 z75_1 z75_2 z75_3 z75_4 z75_5 z75_6 z75_7 z75_8)
    (try clear z78_0 z78_1 z78_2 z78_3 z78_4 z78_5 z78_6 z78_7 z78_8)
    (try clear v19_0 v19_1 v19_2 v19_3 v19_4 v19_5 v19_6 v19_7 v19_8)
    (try clear v32_0 v32_1 v32_2 v32_3 v32_4 v32_5 v32_6 v32_7 v32_8)
    (try clear v37_0 v37_1 v37_2 v37_3 v37_4 v37_5 v37_6 v37_7 v37_8)
    (try clear v43_0 v43_1 v43_2 v43_3 v43_4 v43_5 v43_6 v43_7 v43_8)
    (try clear v49_0 v49_1 v49_2 v49_3 v49_4 v49_5 v49_6 v49_7 v49_8)
    (try clear v57_0 v57_1 v57_2 v57_3 v57_4 v57_5 v57_6 v57_7 v57_8)
    (try clear v67_0 v67_1 v67_2 v67_3 v67_4 v67_5 v67_6 v67_7 v67_8)
    (try clear v6_0 v6_1 v6_2 v6_3 v6_4 v6_5 v6_6 v6_7 v6_8)
    (try clear v70_0 v70_1 v70_2 v70_3 v70_4 v70_5 v70_6 v70_7 v70_8)
    (try clear v75_0 v75_1 v75_2 v75_3 v75_4 v75_5 v75_6 v75_7 v75_8)
    (try clear v78_0 v78_1 v78_2 v78_3 v78_4 v78_5 v78_6 v78_7 v78_8)
    obtain ⟨kq, x53_17, rfl, HA, HJ17, HO_9, HO_540000, HO_540004, HO_540006, HO_540007, HO_540008, HO_560000, HO_560004, HO_560006, HO_560007, HO_560008, HO_584000, HO_584004, HO_584006, HO_584007, HO_584008, BK494, BK539, BK559, BK583, HB⟩ := hcut
    cases kq with
    | zero => exact absurd HA.out (by simp [laws_FnExactDecide.j0])
    | succ kj17 =>
     have H := HA.out
     clear HA
     simp only [laws_FnExactDecide.j0] at H
     by_cases c80 : x53_17 = true
     ·subst c80
      rw [if_pos rfl] at H
      obtain rfl := Option.some.inj H
      go_wp2
      go_ret
      exact ⟨ee, bb HB⟩
     ·replace c80 := Bool.eq_false_iff.mpr c80
      subst c80
      rw [if_neg (show ¬ (false = true) by decide)] at H
      replace H := Option.bind_eq_some_iff.mp H
      obtain ⟨⟨t585, t588, t589, t590, t591, t594, t595, t598, t601⟩, A810, H⟩ := H
      try dsimp only at H
      have A81 := dk A810
      clear A810
      replace H := Option.bind_eq_some_iff.mp H
      obtain ⟨t604, A820, H⟩ := H
      try dsimp only at H
      have A82 := dk A820
      clear A820
      have HC83 := dk H
      clear H
      try go_wp2
      replace HO_9 := dk (Kd.R_drew HO_9.out)
      replace HO_540000 := dk (Kd.R_drew HO_540000.out)
      replace HO_540004 := dk (Kd.R_drew HO_540004.out)
      replace HO_540006 := dk (Kd.R_drew HO_540006.out)
      replace HO_540007 := dk (Kd.R_drew HO_540007.out)
      replace HO_540008 := dk (Kd.R_drew HO_540008.out)
      replace HO_560000 := dk (Kd.R_drew HO_560000.out)
      replace HO_560004 := dk (Kd.R_drew HO_560004.out)
      replace HO_560006 := dk (Kd.R_drew HO_560006.out)
      replace HO_560007 := dk (Kd.R_drew HO_560007.out)
      replace HO_560008 := dk (Kd.R_drew HO_560008.out)
      replace HO_584000 := dk (Kd.R_drew HO_584000.out)
      replace HO_584004 := dk (Kd.R_drew HO_584004.out)
      replace HO_584006 := dk (Kd.R_drew HO_584006.out)
      replace HO_584007 := dk (Kd.R_drew HO_584007.out)
      replace HO_584008 := dk (Kd.R_drew HO_584008.out)
      replace BK494 := dk (blk_drew BK494.out)
      replace BK539 := dk (blk_drew BK539.out)
      replace BK559 := dk (blk_drew BK559.out)
      replace BK583 := dk (blk_drew BK583.out)
      replace HB := dk (below_drew1 HB.out)
      refine start_ (n := 5) (S := fun w' => w'.cell? ⟨gb559, 0, none⟩ = some (.slice Ao40 t540.length co40) ∧ w'.cell? ⟨gb559, 1, none⟩ = some (.int .i64 t543) ∧ w'.cell? ⟨gb559, 2, none⟩ = some (.int .i64 t544) ∧ w'.cell? ⟨gb559, 3, none⟩ = some (.int .i64 t545) ∧ w'.cell? ⟨gb559, 4, none⟩ = some (.slice Ao44 t546.length co44) ∧ w'.cell? ⟨gb559, 5, none⟩ = some (.bool t549) ∧ w'.cell? ⟨gb559, 6, none⟩ = some (.slice Ao45 t550.length co45) ∧ w'.cell? ⟨gb559, 7, none⟩ = some (.slice Ao46 t553.length co46) ∧ w'.cell? ⟨gb559, 8, none⟩ = some (.slice Ao47 t556.length co47) ∧ w'.cell? ⟨gb494, 0, none⟩ = some (.slice A0_0 l0_0.length c0_0) ∧ w'.cell? ⟨gb494, 1, none⟩ = some (.int .i64 a0_1) ∧ w'.cell? ⟨gb494, 2, none⟩ = some (.int .i64 a0_2) ∧ w'.cell? ⟨gb494, 3, none⟩ = some (.int .i64 a0_3) ∧ w'.cell? ⟨gb494, 4, none⟩ = some (.slice A0_4 l0_4.length c0_4) ∧ w'.cell? ⟨gb494, 5, none⟩ = some (.bool a0_5) ∧ w'.cell? ⟨gb494, 6, none⟩ = some (.slice A0_6 l0_6.length c0_6) ∧ w'.cell? ⟨gb494, 7, none⟩ = some (.slice A0_7 l0_7.length c0_7) ∧ w'.cell? ⟨gb494, 8, none⟩ = some (.slice A0_8 l0_8.length c0_8)) (ds := []) #[false, false, false, false, false] (by kernel_rfl) rfl rfl ⟨bc BK559 0, bc BK559 1, bc BK559 2, bc BK559 3, bc BK559 4, bc BK559 5, bc BK559 6, bc BK559 7, bc BK559 8, bc BK494 0, bc BK494 1, bc BK494 2, bc BK494 3, bc BK494 4, bc BK494 5, bc BK494 6, bc BK494 7, bc BK494 8⟩ (fun hHeld => ?_)
      generalize wc.drew = w84 at HO_9 HO_540000 HO_540004 HO_540006 HO_540007 HO_540008 HO_560000 HO_560004 HO_560006 HO_560007 HO_560008 HO_584000 HO_584004 HO_584006 HO_584007 HO_584008 BK494 BK539 BK559 BK583 HB hHeld ⊢
      refine take_ (i := 0) (N := some 54) (v := ?_) (a' := ?_) #[true, false, false, false, false] rfl rfl (by kernel_rfl) (fun _ _ _ h => h) (Or.inl ⟨by rfl, ?_⟩) hHeld ?_ ?_
      rotate_left
      ·rintro w' ⟨s0, s1, s2, s3, s4, s5, s6, s7, s8, s9, s10, s11, s12, s13, s14, s15, s16, s17⟩
       go_simp
       with_reducible rfl
      rotate_left
      ·simp only [Act.put, List.setIfInBounds_toArray, List.set_cons_zero, List.set_cons_succ, i64_w, i32_w]
       rfl
      refine take_ (i := 1) (N := some 55) (v := ?_) (a' := ?_) #[true, true, false, false, false] rfl rfl (by kernel_rfl) (fun _ _ _ h => h) (Or.inl ⟨by rfl, ?_⟩) hHeld ?_ ?_
      rotate_left
      ·rintro w' ⟨s0, s1, s2, s3, s4, s5, s6, s7, s8, s9, s10, s11, s12, s13, s14, s15, s16, s17⟩
       go_simp
       with_reducible rfl
      rotate_left
      ·simp only [Act.put, List.setIfInBounds_toArray, List.set_cons_zero, List.set_cons_succ, i64_w, i32_w]
       rfl
      refine one_ (i := 2) (N := some 56) #[true, true, true, false, false] rfl rfl (by kernel_rfl) (by decide) (fun K hK => ?_)
      refine goes_ Try.func13 (by kernel_rfl) rfl #[.agg #[.slice A0_0 l0_0.length c0_0, .int .i64 a0_1, .int .i64 a0_2, .int .i64 a0_3, .slice A0_4 l0_4.length c0_4, .bool a0_5, .slice A0_6 l0_6.length c0_6, .slice A0_7 l0_7.length c0_7, .slice A0_8 l0_8.length c0_8]] (by rfl) rfl rfl (by (try simp only [List.map_toArray, List.map_cons, List.map_nil]); first | done | rfl | (simp only [List.length_drop, List.length_take]; rfl)) ?_
      with_reducible refine (laws_toBook.calls kj17 _ _ l0_0 a0_1 a0_2 a0_3 _ _ l0_4 a0_5 _ _ l0_6 _ _ l0_7 _ _ l0_8 t585 t588 t589 t590 t591 t594 t595 t598 t601 _ ?side1 ?side2 ?side3 ?side4 ?side5 ?side6 ?side7 ?side8 ?side9 ?side10 A81.out).mono ?_
      (case side1 => exact cc HR0_0 HB)
      (case side2 => exact HC0_0.out)
      (case side3 => exact cc HR0_4 HB)
      (case side4 => exact HC0_4.out)
      (case side5 => exact cc HR0_6 HB)
      (case side6 => exact HC0_6.out)
      (case side7 => exact cc HR0_7 HB)
      (case side8 => exact HC0_7.out)
      (case side9 => exact cc HR0_8 HB)
      (case side10 => exact HC0_8.out)
      rintro e w85 ⟨v586, v592, v596, v599, v602, rfl, ho0, ho1, ho2, ho3, ho4, hb⟩
      refine ⟨_, rfl, ?_⟩
      replace HO_9 := kr HO_9 hb
      have HO587 := dk (Kd.R_lower (Kd.R_new' (Kd.R_new' (Kd.R_new' ho0 (rt HO_540000)) (rt HO_560000)) (rt HO_584000)) (below_size (bb HB)))
      replace HO_540000 := ke HO_540000 ho0 hb
      replace HO_560000 := ke HO_560000 ho0 hb
      replace HO_584000 := ke HO_584000 ho0 hb
      have HO593 := dk (Kd.R_lower (Kd.R_new' (Kd.R_new' (Kd.R_new' (Kd.R_new' (Kd.R_new' (Kd.R_new' (Kd.R_new' (Kd.R_new' (Kd.R_new' ho1 (rt HO_540004)) (rt HO_540007)) (rt HO_540008)) (rt HO_560004)) (rt HO_560007)) (rt HO_560008)) (rt HO_584004)) (rt HO_584007)) (rt HO_584008)) (below_size (bb HB)))
      have HO597 := dk (Kd.R_lower (Kd.R_new' (Kd.R_new' (Kd.R_new' ho2 (rt HO_540006)) (rt HO_560006)) (rt HO_584006)) (below_size (bb HB)))
      replace HO_540006 := ke HO_540006 ho2 hb
      replace HO_560006 := ke HO_560006 ho2 hb
      replace HO_584006 := ke HO_584006 ho2 hb
      have HO600 := dk (Kd.R_lower (Kd.R_new' (Kd.R_new' (Kd.R_new' (Kd.R_new' (Kd.R_new' (Kd.R_new' (Kd.R_new' (Kd.R_new' (Kd.R_new' ho3 (rt HO_540004)) (rt HO_540007)) (rt HO_540008)) (rt HO_560004)) (rt HO_560007)) (rt HO_560008)) (rt HO_584004)) (rt HO_584007)) (rt HO_584008)) (below_size (bb HB)))
      have HO603 := dk (Kd.R_lower (Kd.R_new' (Kd.R_new' (Kd.R_new' (Kd.R_new' (Kd.R_new' (Kd.R_new' (Kd.R_new' (Kd.R_new' (Kd.R_new' ho4 (rt HO_540004)) (rt HO_540007)) (rt HO_540008)) (rt HO_560004)) (rt HO_560007)) (rt HO_560008)) (rt HO_584004)) (rt HO_584007)) (rt HO_584008)) (below_size (bb HB)))
      replace HO_540004 := dk (Kd.R_mono (Kd.R_told (Kd.R_told (Kd.R_told (Kd.R_old (rr HO_540004) hb) (Kd.R_base ho1)) (Kd.R_base ho3)) (Kd.R_base ho4)) (fun _ h_ => h_.1))
      replace HO_540007 := dk (Kd.R_mono (Kd.R_told (Kd.R_told (Kd.R_told (Kd.R_old (rr HO_540007) hb) (Kd.R_base ho1)) (Kd.R_base ho3)) (Kd.R_base ho4)) (fun _ h_ => h_.1))
      replace HO_540008 := dk (Kd.R_mono (Kd.R_told (Kd.R_told (Kd.R_told (Kd.R_old (rr HO_540008) hb) (Kd.R_base ho1)) (Kd.R_base ho3)) (Kd.R_base ho4)) (fun _ h_ => h_.1))
      replace HO_560004 := dk (Kd.R_mono (Kd.R_told (Kd.R_told (Kd.R_told (Kd.R_old (rr HO_560004) hb) (Kd.R_base ho1)) (Kd.R_base ho3)) (Kd.R_base ho4)) (fun _ h_ => h_.1))
      replace HO_560007 := dk (Kd.R_mono (Kd.R_told (Kd.R_told (Kd.R_told (Kd.R_old (rr HO_560007) hb) (Kd.R_base ho1)) (Kd.R_base ho3)) (Kd.R_base ho4)) (fun _ h_ => h_.1))
      replace HO_560008 := dk (Kd.R_mono (Kd.R_told (Kd.R_told (Kd.R_told (Kd.R_old (rr HO_560008) hb) (Kd.R_base ho1)) (Kd.R_base ho3)) (Kd.R_base ho4)) (fun _ h_ => h_.1))
      replace HO_584004 := dk (Kd.R_mono (Kd.R_told (Kd.R_told (Kd.R_told (Kd.R_old (rr HO_584004) hb) (Kd.R_base ho1)) (Kd.R_base ho3)) (Kd.R_base ho4)) (fun _ h_ => h_.1))
      replace HO_584007 := dk (Kd.R_mono (Kd.R_told (Kd.R_told (Kd.R_told (Kd.R_old (rr HO_584007) hb) (Kd.R_base ho1)) (Kd.R_base ho3)) (Kd.R_base ho4)) (fun _ h_ => h_.1))
      replace HO_584008 := dk (Kd.R_mono (Kd.R_told (Kd.R_told (Kd.R_told (Kd.R_old (rr HO_584008) hb) (Kd.R_base ho1)) (Kd.R_base ho3)) (Kd.R_base ho4)) (fun _ h_ => h_.1))
      replace BK494 := kb BK494 hb
      replace BK539 := kb BK539 hb
      replace BK559 := kb BK559 hb
      replace BK583 := kb BK583 hb
      replace HB := hs_ HB hb
      (try clear hb hb2 hk hi ho0 ho1 ho2 ho3 ho4)
      obtain ⟨Ao86, co86, eo86⟩ := Kd.R_slice HO587.out
      (first | subst eo86 | (injection eo86 with f1_ f2_ f3_; have f4_ := f1_.symm; have f5_ := f3_.symm; clear f1_ f2_ f3_; subst f4_; subst f5_))
      obtain ⟨Ao87, co87, eo87⟩ := Kd.R_slice HO593.out
      (first | subst eo87 | (injection eo87 with f1_ f2_ f3_; have f4_ := f1_.symm; have f5_ := f3_.symm; clear f1_ f2_ f3_; subst f4_; subst f5_))
      obtain ⟨Ao88, co88, eo88⟩ := Kd.R_slice HO597.out
      (first | subst eo88 | (injection eo88 with f1_ f2_ f3_; have f4_ := f1_.symm; have f5_ := f3_.symm; clear f1_ f2_ f3_; subst f4_; subst f5_))
      obtain ⟨Ao89, co89, eo89⟩ := Kd.R_slice HO600.out
      (first | subst eo89 | (injection eo89 with f1_ f2_ f3_; have f4_ := f1_.symm; have f5_ := f3_.symm; clear f1_ f2_ f3_; subst f4_; subst f5_))
      obtain ⟨Ao90, co90, eo90⟩ := Kd.R_slice HO603.out
      (first | subst eo90 | (injection eo90 with f1_ f2_ f3_; have f4_ := f1_.symm; have f5_ := f3_.symm; clear f1_ f2_ f3_; subst f4_; subst f5_))
      refine hK.out _ _ ⟨bc BK559 0, bc BK559 1, bc BK559 2, bc BK559 3, bc BK559 4, bc BK559 5, bc BK559 6, bc BK559 7, bc BK559 8, bc BK494 0, bc BK494 1, bc BK494 2, bc BK494 3, bc BK494 4, bc BK494 5, bc BK494 6, bc BK494 7, bc BK494 8⟩ (fun hHeld => ?_)
      clear hK K
      refine norm_ (a' := ?_) ?_ ?_
      rotate_left
      ·show Act.put _ (some 56) _ = _
       simp only [Act.put, List.setIfInBounds_toArray, List.set_cons_zero, List.set_cons_succ, i64_w, i32_w]
       rfl
      refine one_ (i := 3) (N := some 57) #[true, true, true, true, false] rfl rfl (by kernel_rfl) (by decide) (fun K hK => ?_)
      refine goes_ Try.func16 (by kernel_rfl) rfl #[.agg #[.slice Ao40 t540.length co40, .int .i64 t543, .int .i64 t544, .int .i64 t545, .slice Ao44 t546.length co44, .bool t549, .slice Ao45 t550.length co45, .slice Ao46 t553.length co46, .slice Ao47 t556.length co47], .agg #[.slice Ao86 t585.length co86, .int .i64 t588, .int .i64 t589, .int .i64 t590, .slice Ao87 t591.length co87, .bool t594, .slice Ao88 t595.length co88, .slice Ao89 t598.length co89, .slice Ao90 t601.length co90]] (by rfl) rfl rfl (by (try simp only [List.map_toArray, List.map_cons, List.map_nil]); first | done | rfl | (simp only [List.length_drop, List.length_take]; rfl)) ?_
      with_reducible refine (laws_eqBook.calls kj17 _ _ t540 t543 t544 t545 _ _ t546 t549 _ _ t550 _ _ t553 _ _ t556 _ _ t585 t588 t589 t590 _ _ t591 t594 _ _ t595 _ _ t598 _ _ t601 t604 _ ?side1 ?side2 ?side3 ?side4 ?side5 ?side6 ?side7 ?side8 ?side9 ?side10 ?side11 ?side12 ?side13 ?side14 ?side15 ?side16 ?side17 ?side18 ?side19 ?side20 A82.out).mono ?_
      (case side1 => exact cr HO_560000)
      (case side2 => exact (Kd.R_reads' HO_560000.out).2.1)
      (case side3 => exact cr HO_560004)
      (case side4 => exact (Kd.R_reads' HO_560004.out).2.1)
      (case side5 => exact cr HO_560006)
      (case side6 => exact (Kd.R_reads' HO_560006.out).2.1)
      (case side7 => exact cr HO_560007)
      (case side8 => exact (Kd.R_reads' HO_560007.out).2.1)
      (case side9 => exact cr HO_560008)
      (case side10 => exact (Kd.R_reads' HO_560008.out).2.1)
      (case side11 => exact cr HO587)
      (case side12 => exact (Kd.R_reads' HO587.out).2.1)
      (case side13 => exact cr HO593)
      (case side14 => exact (Kd.R_reads' HO593.out).2.1)
      (case side15 => exact cr HO597)
      (case side16 => exact (Kd.R_reads' HO597.out).2.1)
      (case side17 => exact cr HO600)
      (case side18 => exact (Kd.R_reads' HO600.out).2.1)
      (case side19 => exact cr HO603)
      (case side20 => exact (Kd.R_reads' HO603.out).2.1)
      rintro e w91 ⟨rfl, hb⟩
      refine ⟨_, rfl, ?_⟩
      replace HO_9 := kr HO_9 hb
      replace HO_540000 := kr HO_540000 hb
      replace HO_540004 := kr HO_540004 hb
      replace HO_540006 := kr HO_540006 hb
      replace HO_540007 := kr HO_540007 hb
      replace HO_540008 := kr HO_540008 hb
      replace HO_560000 := kr HO_560000 hb
      replace HO_560004 := kr HO_560004 hb
      replace HO_560006 := kr HO_560006 hb
      replace HO_560007 := kr HO_560007 hb
      replace HO_560008 := kr HO_560008 hb
      replace HO_584000 := kr HO_584000 hb
      replace HO_584004 := kr HO_584004 hb
      replace HO_584006 := kr HO_584006 hb
      replace HO_584007 := kr HO_584007 hb
      replace HO_584008 := kr HO_584008 hb
      replace HO587 := kr HO587 hb
      replace HO593 := kr HO593 hb
      replace HO597 := kr HO597 hb
      replace HO600 := kr HO600 hb
      replace HO603 := kr HO603 hb
      replace BK494 := kb BK494 hb
      replace BK539 := kb BK539 hb
      replace BK559 := kb BK559 hb
      replace BK583 := kb BK583 hb
      replace HB := hs_ HB hb
      (try clear hb hb2 hk hi)
      refine hK.out _ _ ⟨bc BK559 0, bc BK559 1, bc BK559 2, bc BK559 3, bc BK559 4, bc BK559 5, bc BK559 6, bc BK559 7, bc BK559 8, bc BK494 0, bc BK494 1, bc BK494 2, bc BK494 3, bc BK494 4, bc BK494 5, bc BK494 6, bc BK494 7, bc BK494 8⟩ (fun hHeld => ?_)
      clear hK K
      refine norm_ (a' := ?_) ?_ ?_
      rotate_left
      ·show Act.put _ (some 57) _ = _
       simp only [Act.put, List.setIfInBounds_toArray, List.set_cons_zero, List.set_cons_succ, i64_w, i32_w]
       rfl
      refine pure_ (i := 4) (N := some 58) (v := ?_) (a' := ?_) #[true, true, true, true, true] rfl rfl (by kernel_rfl) (fun _ _ _ h => h) (Or.inl ⟨by rfl, ?_⟩) ?_ ?_
      rotate_left
      ·intro w'
       go_simp
       with_reducible rfl
      rotate_left
      ·simp only [Act.put, List.setIfInBounds_toArray, List.set_cons_zero, List.set_cons_succ, i64_w, i32_w]
       rfl
      refine done_ (by kernel_rfl) ?_
      go_upto_if 58 with (fail)
      have H := HC83.out
      clear HC83
      by_cases c92 : t604 = true
      ·subst c92
       rw [if_pos rfl] at H
       replace H := Option.bind_eq_some_iff.mp H
       obtain ⟨t605, A930, H⟩ := H
       try dsimp only at H
       have A93 := dk A930
       clear A930
       replace H := Option.bind_eq_some_iff.mp H
       obtain ⟨t608, A940, H⟩ := H
       try dsimp only at H
       have A94 := dk A940
       clear A940
       have HC95 := dk H
       clear H
       go_upto_if 63 with (first | ((with_reducible refine gate_callee (f := 14) rfl ?_); refine gl (some 61) Try.func14 #[.slice A1 l1.length c1] ?_; (with_reducible refine (laws_toProtestS.calls kj17 _ _ l1 t605 _ ?side1 ?side2 A93.out).mono ?_); (case side1 => exact cc HR1 HB); (case side2 => exact HC1.out); rintro e w96 ⟨v606, rfl, ho0, hb⟩; refine ⟨_, rfl, ?_⟩; replace HO_540000 := kr HO_540000 hb; replace HO_540004 := kr HO_540004 hb; replace HO_540006 := kr HO_540006 hb; replace HO_540007 := kr HO_540007 hb; replace HO_540008 := kr HO_540008 hb; replace HO_560000 := kr HO_560000 hb; replace HO_560004 := kr HO_560004 hb; replace HO_560006 := kr HO_560006 hb; replace HO_560007 := kr HO_560007 hb; replace HO_560008 := kr HO_560008 hb; replace HO_584000 := kr HO_584000 hb; replace HO_584004 := kr HO_584004 hb; replace HO_584006 := kr HO_584006 hb; replace HO_584007 := kr HO_584007 hb; replace HO_584008 := kr HO_584008 hb; replace HO587 := kr HO587 hb; replace HO593 := kr HO593 hb; replace HO597 := kr HO597 hb; replace HO600 := kr HO600 hb; replace HO603 := kr HO603 hb; have HO607 := dk (Kd.R_lower (Kd.R_new' ho0 (rt HO_9)) (below_size (bb HB))); replace HO_9 := ke HO_9 ho0 hb; replace BK494 := kb BK494 hb; replace BK539 := kb BK539 hb; replace BK559 := kb BK559 hb; replace BK583 := kb BK583 hb; replace HB := hs_ HB hb; (try clear hb hb2 hk hi ho0); obtain ⟨Ao97, co97, eo97⟩ := Kd.R_slice HO607.out; subst eo97) | ((with_reducible refine gate_callee (f := 17) rfl ?_); refine gl (some 62) Try.func17 #[.slice Ao50 t560.length co50, .slice Ao97 t605.length co97] ?_; (with_reducible refine (laws_eqProtestS.calls kj17 _ _ t560 _ _ t605 t608 _ ?side1 ?side2 ?side3 ?side4 A94.out).mono ?_); (case side1 => exact cr HO_9); (case side2 => exact cl HO_9); (case side3 => exact cr HO607); (case side4 => exact cl HO607); rintro e w98 ⟨rfl, hb⟩; refine ⟨_, rfl, ?_⟩; replace HO_9 := kr HO_9 hb; replace HO_540000 := kr HO_540000 hb; replace HO_540004 := kr HO_540004 hb; replace HO_540006 := kr HO_540006 hb; replace HO_540007 := kr HO_540007 hb; replace HO_540008 := kr HO_540008 hb; replace HO_560000 := kr HO_560000 hb; replace HO_560004 := kr HO_560004 hb; replace HO_560006 := kr HO_560006 hb; replace HO_560007 := kr HO_560007 hb; replace HO_560008 := kr HO_560008 hb; replace HO_584000 := kr HO_584000 hb; replace HO_584004 := kr HO_584004 hb; replace HO_584006 := kr HO_584006 hb; replace HO_584007 := kr HO_584007 hb; replace HO_584008 := kr HO_584008 hb; replace HO587 := kr HO587 hb; replace HO593 := kr HO593 hb; replace HO597 := kr HO597 hb; replace HO600 := kr HO600 hb; replace HO603 := kr HO603 hb; replace HO607 := kr HO607 hb; replace BK494 := kb BK494 hb; replace BK539 := kb BK539 hb; replace BK559 := kb BK559 hb; replace BK583 := kb BK583 hb; replace HB := hs_ HB hb; (try clear hb hb2 hk hi)))
       (try simp only [Act.put, List.setIfInBounds_toArray, List.set_cons_zero, List.set_cons_succ])
       have H := HC95.out
       clear HC95
       by_cases c99 : t608 = true
       ·subst c99
        rw [if_pos rfl] at H
        replace H := Option.bind_eq_some_iff.mp H
        obtain ⟨⟨t609, t610, t611, t612, t613, t614⟩, A1000, H⟩ := H
        try dsimp only at H
        have A100 := dk A1000
        clear A1000
        replace H := Option.bind_eq_some_iff.mp H
        obtain ⟨⟨t615, t616⟩, A1010, H⟩ := H
        try dsimp only at H
        have A101 := dk A1010
        clear A1010
        have HC102 := dk H
        clear H
        have hnb103 := NB559_494.out
        have hnc103 := NB494_559.out
        have hnb104 := NB559_539.out
        have hnc104 := NB539_559.out
        have hnb105 := NB559_583.out
        have hnc105 := NB583_559.out
        have ⟨z106_0, z106_1, z106_2, z106_3, z106_4, z106_5, z106_6, z106_7, z106_8, v106_0, v106_1, v106_2, v106_3, v106_4, v106_5, v106_6, v106_7, v106_8⟩ := rz9 BK559
        go_upto_region 21 with (first | ((with_reducible refine gate_callee (f := 18) rfl ?_); refine gl (some 66) Try.func18 #[.agg #[.slice Ao40 t540.length co40, .int .i64 t543, .int .i64 t544, .int .i64 t545, .slice Ao44 t546.length co44, .bool t549, .slice Ao45 t550.length co45, .slice Ao46 t553.length co46, .slice Ao47 t556.length co47], .int .i64 1] ?_; (with_reducible refine (laws_markBook.calls kj17 (fun k_ => some k_ = (.slice Ao40 t540.length co40 : Value).ownBlock) (.slice Ao40 t540.length co40) t540 t543 t544 t545 (fun k_ => some k_ = (.slice Ao44 t546.length co44 : Value).ownBlock) (.slice Ao44 t546.length co44) t546 t549 (fun k_ => some k_ = (.slice Ao45 t550.length co45 : Value).ownBlock) (.slice Ao45 t550.length co45) t550 (fun k_ => some k_ = (.slice Ao46 t553.length co46 : Value).ownBlock) (.slice Ao46 t553.length co46) t553 (fun k_ => some k_ = (.slice Ao47 t556.length co47 : Value).ownBlock) (.slice Ao47 t556.length co47) t556 1 t609 t610 t611 t612 t613 t614 w _ ?side1 ?side2 ?side3 ?side4 ?side5 ?side6 ?side7 ?side8 ?side9 ?side10 ?side11 ?side12 A100.out).mono ?_); (case side1 => exact bb HB); (case side2 => exact Kd.R_tight rfl HO_560000.out); (case side3 => exact Kd.R_tight rfl HO_560004.out); (case side4 => exact fun k_ e_ => (HO_560004.out.1 k_ e_.symm).1.1.1.2.2.2.1); (case side5 => exact fun k_ e_ => (HO_560004.out.1 k_ e_.symm).1.1.1.2.2.2.2.1); (case side6 => exact Kd.R_tight rfl HO_560006.out); (case side7 => exact Kd.R_tight rfl HO_560007.out); (case side8 => exact fun k_ e_ => (HO_560007.out.1 k_ e_.symm).1.1.1.2.2.2.1); (case side9 => exact fun k_ e_ => (HO_560007.out.1 k_ e_.symm).1.1.1.2.2.2.2.1); (case side10 => exact Kd.R_tight rfl HO_560008.out); (case side11 => exact fun k_ e_ => (HO_560008.out.1 k_ e_.symm).1.1.1.2.2.2.1); (case side12 => exact fun k_ e_ => (HO_560008.out.1 k_ e_.symm).1.1.1.2.2.2.2.1); rintro e w107 ⟨rfl, hy0, hy1, hy2, hy3, hy4, hb, hkp⟩; refine ⟨_, rfl, ?_⟩; replace HO_9 := km hkp (ra (ra (ra (ra (ra HO_9.out HO_560000) HO_560004) HO_560006) HO_560007) HO_560008) (fun k_ hk_ => oe hk_.1.1.1.1.2 (oe hk_.1.1.1.2 (oe hk_.1.1.2 (oe hk_.1.2 hk_.2)))) (fun k_ hk_ => hk_.1.1.1.1.1.2); replace HO_540000 := km hkp (ra (ra (ra (ra HO_540000.out HO_560004) HO_560006) HO_560007) HO_560008) (fun k_ hk_ => oe hk_.1.1.1.1.1.1 (oe hk_.1.1.1.2 (oe hk_.1.1.2 (oe hk_.1.2 hk_.2)))) (fun k_ hk_ => ai hk_.1.1.1.1.1.1 (ai hk_.1.1.1.1.1.2 hk_.1.1.1.1.2)); replace HO_540004 := km hkp (ra (ra HO_540004.out HO_560000) HO_560006) (fun k_ hk_ => oe hk_.1.2 (oe hk_.1.1.1.1.1.2.2.1 (oe hk_.2 (oe hk_.1.1.1.1.1.2.2.2.1 hk_.1.1.1.1.1.2.2.2.2.1)))) (fun k_ hk_ => ai hk_.1.1.1.1.1.1 (ai hk_.1.1.1.1.1.2.1 (ai hk_.1.1.1.1.1.2.2.1 (ai hk_.1.1.1.1.1.2.2.2.1 (ai hk_.1.1.1.1.1.2.2.2.2.1 (ai hk_.1.1.1.1.1.2.2.2.2.2.1 (ai hk_.1.1.1.1.1.2.2.2.2.2.2.1 (ai hk_.1.1.1.1.1.2.2.2.2.2.2.2 (ai hk_.1.1.1.1.2 (ai hk_.1.1.1.2 hk_.1.1.2)))))))))); replace HO_540006 := km hkp (ra (ra (ra (ra HO_540006.out HO_560000) HO_560004) HO_560007) HO_560008) (fun k_ hk_ => oe hk_.1.1.1.2 (oe hk_.1.1.2 (oe hk_.1.1.1.1.1.1 (oe hk_.1.2 hk_.2)))) (fun k_ hk_ => ai hk_.1.1.1.1.1.1 (ai hk_.1.1.1.1.1.2 hk_.1.1.1.1.2)); replace HO_540007 := km hkp (ra (ra HO_540007.out HO_560000) HO_560006) (fun k_ hk_ => oe hk_.1.2 (oe hk_.1.1.1.1.1.2.2.1 (oe hk_.2 (oe hk_.1.1.1.1.1.2.2.2.1 hk_.1.1.1.1.1.2.2.2.2.1)))) (fun k_ hk_ => ai hk_.1.1.1.1.1.1 (ai hk_.1.1.1.1.1.2.1 (ai hk_.1.1.1.1.1.2.2.1 (ai hk_.1.1.1.1.1.2.2.2.1 (ai hk_.1.1.1.1.1.2.2.2.2.1 (ai hk_.1.1.1.1.1.2.2.2.2.2.1 (ai hk_.1.1.1.1.1.2.2.2.2.2.2.1 (ai hk_.1.1.1.1.1.2.2.2.2.2.2.2 (ai hk_.1.1.1.1.2 (ai hk_.1.1.1.2 hk_.1.1.2)))))))))); replace HO_540008 := km hkp (ra (ra HO_540008.out HO_560000) HO_560006) (fun k_ hk_ => oe hk_.1.2 (oe hk_.1.1.1.1.1.2.2.1 (oe hk_.2 (oe hk_.1.1.1.1.1.2.2.2.1 hk_.1.1.1.1.1.2.2.2.2.1)))) (fun k_ hk_ => ai hk_.1.1.1.1.1.1 (ai hk_.1.1.1.1.1.2.1 (ai hk_.1.1.1.1.1.2.2.1 (ai hk_.1.1.1.1.1.2.2.2.1 (ai hk_.1.1.1.1.1.2.2.2.2.1 (ai hk_.1.1.1.1.1.2.2.2.2.2.1 (ai hk_.1.1.1.1.1.2.2.2.2.2.2.1 (ai hk_.1.1.1.1.1.2.2.2.2.2.2.2 (ai hk_.1.1.1.1.2 (ai hk_.1.1.1.2 hk_.1.1.2)))))))))); replace HO_584000 := km hkp (ra (ra (ra (ra HO_584000.out HO_560004) HO_560006) HO_560007) HO_560008) (fun k_ hk_ => oe hk_.1.1.1.1.1.2 (oe hk_.1.1.1.2 (oe hk_.1.1.2 (oe hk_.1.2 hk_.2)))) (fun k_ hk_ => ai hk_.1.1.1.1.1.1 (ai hk_.1.1.1.1.1.2 hk_.1.1.1.1.2)); replace HO_584004 := km hkp (ra (ra HO_584004.out HO_560000) HO_560006) (fun k_ hk_ => oe hk_.1.2 (oe hk_.1.1.1.1.1.2.2.2.1 (oe hk_.2 (oe hk_.1.1.1.1.1.2.2.2.2.1 hk_.1.1.1.1.1.2.2.2.2.2.1)))) (fun k_ hk_ => ai hk_.1.1.1.1.1.1 (ai hk_.1.1.1.1.1.2.1 (ai hk_.1.1.1.1.1.2.2.1 (ai hk_.1.1.1.1.1.2.2.2.1 (ai hk_.1.1.1.1.1.2.2.2.2.1 (ai hk_.1.1.1.1.1.2.2.2.2.2.1 (ai hk_.1.1.1.1.1.2.2.2.2.2.2.1 (ai hk_.1.1.1.1.1.2.2.2.2.2.2.2 (ai hk_.1.1.1.1.2 (ai hk_.1.1.1.2 hk_.1.1.2)))))))))); replace HO_584006 := km hkp (ra (ra (ra (ra HO_584006.out HO_560000) HO_560004) HO_560007) HO_560008) (fun k_ hk_ => oe hk_.1.1.1.2 (oe hk_.1.1.2 (oe hk_.1.1.1.1.1.2 (oe hk_.1.2 hk_.2)))) (fun k_ hk_ => ai hk_.1.1.1.1.1.1 (ai hk_.1.1.1.1.1.2 hk_.1.1.1.1.2)); replace HO_584007 := km hkp (ra (ra HO_584007.out HO_560000) HO_560006) (fun k_ hk_ => oe hk_.1.2 (oe hk_.1.1.1.1.1.2.2.2.1 (oe hk_.2 (oe hk_.1.1.1.1.1.2.2.2.2.1 hk_.1.1.1.1.1.2.2.2.2.2.1)))) (fun k_ hk_ => ai hk_.1.1.1.1.1.1 (ai hk_.1.1.1.1.1.2.1 (ai hk_.1.1.1.1.1.2.2.1 (ai hk_.1.1.1.1.1.2.2.2.1 (ai hk_.1.1.1.1.1.2.2.2.2.1 (ai hk_.1.1.1.1.1.2.2.2.2.2.1 (ai hk_.1.1.1.1.1.2.2.2.2.2.2.1 (ai hk_.1.1.1.1.1.2.2.2.2.2.2.2 (ai hk_.1.1.1.1.2 (ai hk_.1.1.1.2 hk_.1.1.2)))))))))); replace HO_584008 := km hkp (ra (ra HO_584008.out HO_560000) HO_560006) (fun k_ hk_ => oe hk_.1.2 (oe hk_.1.1.1.1.1.2.2.2.1 (oe hk_.2 (oe hk_.1.1.1.1.1.2.2.2.2.1 hk_.1.1.1.1.1.2.2.2.2.2.1)))) (fun k_ hk_ => ai hk_.1.1.1.1.1.1 (ai hk_.1.1.1.1.1.2.1 (ai hk_.1.1.1.1.1.2.2.1 (ai hk_.1.1.1.1.1.2.2.2.1 (ai hk_.1.1.1.1.1.2.2.2.2.1 (ai hk_.1.1.1.1.1.2.2.2.2.2.1 (ai hk_.1.1.1.1.1.2.2.2.2.2.2.1 (ai hk_.1.1.1.1.1.2.2.2.2.2.2.2 (ai hk_.1.1.1.1.2 (ai hk_.1.1.1.2 hk_.1.1.2)))))))))); replace BK494 := dk (blk_kept (bk BK494) hkp (fun hs_ => Or.elim hs_ (fun e_ => (fun e_ => (Kd.R_ne HO_560000.out BK494.out (by decide)) e_) e_) (fun e_ => Or.elim e_ (fun e_ => (fun e_ => (Kd.R_ne HO_560004.out BK494.out (by decide)) e_) e_) (fun e_ => Or.elim e_ (fun e_ => (fun e_ => (Kd.R_ne HO_560006.out BK494.out (by decide)) e_) e_) (fun e_ => Or.elim e_ (fun e_ => (fun e_ => (Kd.R_ne HO_560007.out BK494.out (by decide)) e_) e_) (fun e_ => (fun e_ => (Kd.R_ne HO_560008.out BK494.out (by decide)) e_) e_)))))); replace BK539 := dk (blk_kept (bk BK539) hkp (fun hs_ => Or.elim hs_ (fun e_ => (fun e_ => (Kd.R_ne HO_560000.out BK539.out (by decide)) e_) e_) (fun e_ => Or.elim e_ (fun e_ => (fun e_ => (Kd.R_ne HO_560004.out BK539.out (by decide)) e_) e_) (fun e_ => Or.elim e_ (fun e_ => (fun e_ => (Kd.R_ne HO_560006.out BK539.out (by decide)) e_) e_) (fun e_ => Or.elim e_ (fun e_ => (fun e_ => (Kd.R_ne HO_560007.out BK539.out (by decide)) e_) e_) (fun e_ => (fun e_ => (Kd.R_ne HO_560008.out BK539.out (by decide)) e_) e_)))))); replace BK559 := dk (blk_kept (bk BK559) hkp (fun hs_ => Or.elim hs_ (fun e_ => (fun e_ => (Kd.R_ne HO_560000.out BK559.out (by decide)) e_) e_) (fun e_ => Or.elim e_ (fun e_ => (fun e_ => (Kd.R_ne HO_560004.out BK559.out (by decide)) e_) e_) (fun e_ => Or.elim e_ (fun e_ => (fun e_ => (Kd.R_ne HO_560006.out BK559.out (by decide)) e_) e_) (fun e_ => Or.elim e_ (fun e_ => (fun e_ => (Kd.R_ne HO_560007.out BK559.out (by decide)) e_) e_) (fun e_ => (fun e_ => (Kd.R_ne HO_560008.out BK559.out (by decide)) e_) e_)))))); replace BK583 := dk (blk_kept (bk BK583) hkp (fun hs_ => Or.elim hs_ (fun e_ => (fun e_ => (Kd.R_ne HO_560000.out BK583.out (by decide)) e_) e_) (fun e_ => Or.elim e_ (fun e_ => (fun e_ => (Kd.R_ne HO_560004.out BK583.out (by decide)) e_) e_) (fun e_ => Or.elim e_ (fun e_ => (fun e_ => (Kd.R_ne HO_560006.out BK583.out (by decide)) e_) e_) (fun e_ => Or.elim e_ (fun e_ => (fun e_ => (Kd.R_ne HO_560007.out BK583.out (by decide)) e_) e_) (fun e_ => (fun e_ => (Kd.R_ne HO_560008.out BK583.out (by decide)) e_) e_)))))); replace HO587 := km hkp (ra (ra (ra (ra HO587.out HO_560004) HO_560006) HO_560007) HO_560008) (fun k_ hk_ => oe hk_.1.1.1.1.1.2 (oe hk_.1.1.1.2 (oe hk_.1.1.2 (oe hk_.1.2 hk_.2)))) (fun k_ hk_ => ai hk_.1.1.1.1.1.1.2 (ai hk_.1.1.1.1.1.2 hk_.1.1.1.1.2)); replace HO593 := km hkp (ra (ra HO593.out HO_560000) HO_560006) (fun k_ hk_ => oe hk_.1.2 (oe hk_.1.1.1.1.1.1.1.2 (oe hk_.2 (oe hk_.1.1.1.1.1.1.2 hk_.1.1.1.1.1.2)))) (fun k_ hk_ => ai hk_.1.1.1.1.1.1.1.1.1.1.2 (ai hk_.1.1.1.1.1.1.1.1.1.2 (ai hk_.1.1.1.1.1.1.1.1.2 (ai hk_.1.1.1.1.1.1.1.2 (ai hk_.1.1.1.1.1.1.2 (ai hk_.1.1.1.1.1.2 (ai hk_.1.1.1.1.2 (ai hk_.1.1.1.2 (ai hk_.1.1.2 (ai hk_.1.1.1.1.1.1.1.1.1.1.1.1 hk_.1.1.1.1.1.1.1.1.1.1.1.2)))))))))); replace HO597 := km hkp (ra (ra (ra (ra HO597.out HO_560000) HO_560004) HO_560007) HO_560008) (fun k_ hk_ => oe hk_.1.1.1.2 (oe hk_.1.1.2 (oe hk_.1.1.1.1.1.2 (oe hk_.1.2 hk_.2)))) (fun k_ hk_ => ai hk_.1.1.1.1.1.1.2 (ai hk_.1.1.1.1.1.2 hk_.1.1.1.1.2)); replace HO600 := km hkp (ra (ra HO600.out HO_560000) HO_560006) (fun k_ hk_ => oe hk_.1.2 (oe hk_.1.1.1.1.1.1.1.2 (oe hk_.2 (oe hk_.1.1.1.1.1.1.2 hk_.1.1.1.1.1.2)))) (fun k_ hk_ => ai hk_.1.1.1.1.1.1.1.1.1.1.2 (ai hk_.1.1.1.1.1.1.1.1.1.2 (ai hk_.1.1.1.1.1.1.1.1.2 (ai hk_.1.1.1.1.1.1.1.2 (ai hk_.1.1.1.1.1.1.2 (ai hk_.1.1.1.1.1.2 (ai hk_.1.1.1.1.2 (ai hk_.1.1.1.2 (ai hk_.1.1.2 (ai hk_.1.1.1.1.1.1.1.1.1.1.1.1 hk_.1.1.1.1.1.1.1.1.1.1.1.2)))))))))); replace HO603 := km hkp (ra (ra HO603.out HO_560000) HO_560006) (fun k_ hk_ => oe hk_.1.2 (oe hk_.1.1.1.1.1.1.1.2 (oe hk_.2 (oe hk_.1.1.1.1.1.1.2 hk_.1.1.1.1.1.2)))) (fun k_ hk_ => ai hk_.1.1.1.1.1.1.1.1.1.1.2 (ai hk_.1.1.1.1.1.1.1.1.1.2 (ai hk_.1.1.1.1.1.1.1.1.2 (ai hk_.1.1.1.1.1.1.1.2 (ai hk_.1.1.1.1.1.1.2 (ai hk_.1.1.1.1.1.2 (ai hk_.1.1.1.1.2 (ai hk_.1.1.1.2 (ai hk_.1.1.2 (ai hk_.1.1.1.1.1.1.1.1.1.1.1.1 hk_.1.1.1.1.1.1.1.1.1.1.1.2)))))))))); replace HO607 := km hkp (ra (ra (ra (ra (ra HO607.out HO_560000) HO_560004) HO_560006) HO_560007) HO_560008) (fun k_ hk_ => oe hk_.1.1.1.1.2 (oe hk_.1.1.1.2 (oe hk_.1.1.2 (oe hk_.1.2 hk_.2)))) (fun k_ hk_ => hk_.1.1.1.1.1.2); replace HO_560000 := dk (Kd.R_reok rfl hy0 (fun k_ e_ => HO_560000.out.1 k_ e_)); replace HO_560004 := dk (Kd.R_reok rfl hy1 (fun k_ e_ => HO_560004.out.1 k_ e_)); replace HO_560006 := dk (Kd.R_reok rfl hy2 (fun k_ e_ => HO_560006.out.1 k_ e_)); replace HO_560007 := dk (Kd.R_reok rfl hy3 (fun k_ e_ => HO_560007.out.1 k_ e_)); replace HO_560008 := dk (Kd.R_reok rfl hy4 (fun k_ e_ => HO_560008.out.1 k_ e_)); replace HB := dk (hb); (try clear hb hkp hy0 hy1 hy2 hy3 hy4)) | ((with_reducible refine gate_callee (f := 19) rfl ?_); refine gl (some 69) Try.func19 #[.slice Ao50 t560.length co50, .int .i64 t609] ?_; (with_reducible refine (laws_markProtestS.calls kj17 (fun k_ => some k_ = (.slice Ao50 t560.length co50 : Value).ownBlock) (.slice Ao50 t560.length co50) t560 t609 t615 t616 w _ ?side1 ?side2 A101.out).mono ?_); (case side1 => exact bb HB); (case side2 => exact Kd.R_tight rfl HO_9.out); rintro e w108 ⟨rfl, hy0, hb, hkp⟩; refine ⟨_, rfl, ?_⟩; replace HO_540000 := km hkp (ra HO_540000.out HO_9) (fun k_ hk_ => hk_.2) (fun k_ hk_ => ai hk_.1.1 (ai hk_.1.2.1 hk_.1.2.2)); replace HO_540004 := km hkp (ra HO_540004.out HO_9) (fun k_ hk_ => hk_.2) (fun k_ hk_ => ai hk_.1.1 (ai hk_.1.2.1 (ai hk_.1.2.2.1 (ai hk_.1.2.2.2.1 (ai hk_.1.2.2.2.2.1 (ai hk_.1.2.2.2.2.2.1 (ai hk_.1.2.2.2.2.2.2.1 (ai hk_.1.2.2.2.2.2.2.2.1 (ai hk_.1.2.2.2.2.2.2.2.2.1 (ai hk_.1.2.2.2.2.2.2.2.2.2.1 hk_.1.2.2.2.2.2.2.2.2.2.2)))))))))); replace HO_540006 := km hkp (ra HO_540006.out HO_9) (fun k_ hk_ => hk_.2) (fun k_ hk_ => ai hk_.1.1 (ai hk_.1.2.1 hk_.1.2.2)); replace HO_540007 := km hkp (ra HO_540007.out HO_9) (fun k_ hk_ => hk_.2) (fun k_ hk_ => ai hk_.1.1 (ai hk_.1.2.1 (ai hk_.1.2.2.1 (ai hk_.1.2.2.2.1 (ai hk_.1.2.2.2.2.1 (ai hk_.1.2.2.2.2.2.1 (ai hk_.1.2.2.2.2.2.2.1 (ai hk_.1.2.2.2.2.2.2.2.1 (ai hk_.1.2.2.2.2.2.2.2.2.1 (ai hk_.1.2.2.2.2.2.2.2.2.2.1 hk_.1.2.2.2.2.2.2.2.2.2.2)))))))))); replace HO_540008 := km hkp (ra HO_540008.out HO_9) (fun k_ hk_ => hk_.2) (fun k_ hk_ => ai hk_.1.1 (ai hk_.1.2.1 (ai hk_.1.2.2.1 (ai hk_.1.2.2.2.1 (ai hk_.1.2.2.2.2.1 (ai hk_.1.2.2.2.2.2.1 (ai hk_.1.2.2.2.2.2.2.1 (ai hk_.1.2.2.2.2.2.2.2.1 (ai hk_.1.2.2.2.2.2.2.2.2.1 (ai hk_.1.2.2.2.2.2.2.2.2.2.1 hk_.1.2.2.2.2.2.2.2.2.2.2)))))))))); replace HO_560000 := km hkp (ra HO_560000.out HO_9) (fun k_ hk_ => hk_.2) (fun k_ hk_ => ai hk_.1.1.1 (ai hk_.1.1.2 hk_.1.2)); replace HO_560004 := km hkp (ra HO_560004.out HO_9) (fun k_ hk_ => hk_.2) (fun k_ hk_ => ai hk_.1.1.1.1.1 (ai hk_.1.1.1.1.2.1 (ai hk_.1.1.1.1.2.2.1 (ai hk_.1.1.1.1.2.2.2.1 (ai hk_.1.1.1.1.2.2.2.2.1 (ai hk_.1.1.1.1.2.2.2.2.2.1 (ai hk_.1.1.1.1.2.2.2.2.2.2.1 (ai hk_.1.1.1.1.2.2.2.2.2.2.2 (ai hk_.1.1.1.2 (ai hk_.1.1.2 hk_.1.2)))))))))); replace HO_560006 := km hkp (ra HO_560006.out HO_9) (fun k_ hk_ => hk_.2) (fun k_ hk_ => ai hk_.1.1.1 (ai hk_.1.1.2 hk_.1.2)); replace HO_560007 := km hkp (ra HO_560007.out HO_9) (fun k_ hk_ => hk_.2) (fun k_ hk_ => ai hk_.1.1.1.1.1 (ai hk_.1.1.1.1.2.1 (ai hk_.1.1.1.1.2.2.1 (ai hk_.1.1.1.1.2.2.2.1 (ai hk_.1.1.1.1.2.2.2.2.1 (ai hk_.1.1.1.1.2.2.2.2.2.1 (ai hk_.1.1.1.1.2.2.2.2.2.2.1 (ai hk_.1.1.1.1.2.2.2.2.2.2.2 (ai hk_.1.1.1.2 (ai hk_.1.1.2 hk_.1.2)))))))))); replace HO_560008 := km hkp (ra HO_560008.out HO_9) (fun k_ hk_ => hk_.2) (fun k_ hk_ => ai hk_.1.1.1.1.1 (ai hk_.1.1.1.1.2.1 (ai hk_.1.1.1.1.2.2.1 (ai hk_.1.1.1.1.2.2.2.1 (ai hk_.1.1.1.1.2.2.2.2.1 (ai hk_.1.1.1.1.2.2.2.2.2.1 (ai hk_.1.1.1.1.2.2.2.2.2.2.1 (ai hk_.1.1.1.1.2.2.2.2.2.2.2 (ai hk_.1.1.1.2 (ai hk_.1.1.2 hk_.1.2)))))))))); replace HO_584000 := km hkp (ra HO_584000.out HO_9) (fun k_ hk_ => hk_.2) (fun k_ hk_ => ai hk_.1.1 (ai hk_.1.2.1 hk_.1.2.2)); replace HO_584004 := km hkp (ra HO_584004.out HO_9) (fun k_ hk_ => hk_.2) (fun k_ hk_ => ai hk_.1.1 (ai hk_.1.2.1 (ai hk_.1.2.2.1 (ai hk_.1.2.2.2.1 (ai hk_.1.2.2.2.2.1 (ai hk_.1.2.2.2.2.2.1 (ai hk_.1.2.2.2.2.2.2.1 (ai hk_.1.2.2.2.2.2.2.2.1 (ai hk_.1.2.2.2.2.2.2.2.2.1 (ai hk_.1.2.2.2.2.2.2.2.2.2.1 hk_.1.2.2.2.2.2.2.2.2.2.2)))))))))); replace HO_584006 := km hkp (ra HO_584006.out HO_9) (fun k_ hk_ => hk_.2) (fun k_ hk_ => ai hk_.1.1 (ai hk_.1.2.1 hk_.1.2.2)); replace HO_584007 := km hkp (ra HO_584007.out HO_9) (fun k_ hk_ => hk_.2) (fun k_ hk_ => ai hk_.1.1 (ai hk_.1.2.1 (ai hk_.1.2.2.1 (ai hk_.1.2.2.2.1 (ai hk_.1.2.2.2.2.1 (ai hk_.1.2.2.2.2.2.1 (ai hk_.1.2.2.2.2.2.2.1 (ai hk_.1.2.2.2.2.2.2.2.1 (ai hk_.1.2.2.2.2.2.2.2.2.1 (ai hk_.1.2.2.2.2.2.2.2.2.2.1 hk_.1.2.2.2.2.2.2.2.2.2.2)))))))))); replace HO_584008 := km hkp (ra HO_584008.out HO_9) (fun k_ hk_ => hk_.2) (fun k_ hk_ => ai hk_.1.1 (ai hk_.1.2.1 (ai hk_.1.2.2.1 (ai hk_.1.2.2.2.1 (ai hk_.1.2.2.2.2.1 (ai hk_.1.2.2.2.2.2.1 (ai hk_.1.2.2.2.2.2.2.1 (ai hk_.1.2.2.2.2.2.2.2.1 (ai hk_.1.2.2.2.2.2.2.2.2.1 (ai hk_.1.2.2.2.2.2.2.2.2.2.1 hk_.1.2.2.2.2.2.2.2.2.2.2)))))))))); replace BK494 := dk (blk_kept (bk BK494) hkp (fun hs_ => (fun e_ => (Kd.R_ne HO_9.out BK494.out (by decide)) e_) hs_)); replace BK539 := dk (blk_kept (bk BK539) hkp (fun hs_ => (fun e_ => (Kd.R_ne HO_9.out BK539.out (by decide)) e_) hs_)); replace BK559 := dk (blk_kept (bk BK559) hkp (fun hs_ => (fun e_ => (Kd.R_ne HO_9.out BK559.out (by decide)) e_) hs_)); replace BK583 := dk (blk_kept (bk BK583) hkp (fun hs_ => (fun e_ => (Kd.R_ne HO_9.out BK583.out (by decide)) e_) hs_)); replace HO587 := km hkp (ra HO587.out HO_9) (fun k_ hk_ => hk_.2) (fun k_ hk_ => ai hk_.1.1 (ai hk_.1.2.1 hk_.1.2.2)); replace HO593 := km hkp (ra HO593.out HO_9) (fun k_ hk_ => hk_.2) (fun k_ hk_ => ai hk_.1.1 (ai hk_.1.2.1 (ai hk_.1.2.2.1 (ai hk_.1.2.2.2.1 (ai hk_.1.2.2.2.2.1 (ai hk_.1.2.2.2.2.2.1 (ai hk_.1.2.2.2.2.2.2.1 (ai hk_.1.2.2.2.2.2.2.2.1 (ai hk_.1.2.2.2.2.2.2.2.2.1 (ai hk_.1.2.2.2.2.2.2.2.2.2.1 hk_.1.2.2.2.2.2.2.2.2.2.2)))))))))); replace HO597 := km hkp (ra HO597.out HO_9) (fun k_ hk_ => hk_.2) (fun k_ hk_ => ai hk_.1.1 (ai hk_.1.2.1 hk_.1.2.2)); replace HO600 := km hkp (ra HO600.out HO_9) (fun k_ hk_ => hk_.2) (fun k_ hk_ => ai hk_.1.1 (ai hk_.1.2.1 (ai hk_.1.2.2.1 (ai hk_.1.2.2.2.1 (ai hk_.1.2.2.2.2.1 (ai hk_.1.2.2.2.2.2.1 (ai hk_.1.2.2.2.2.2.2.1 (ai hk_.1.2.2.2.2.2.2.2.1 (ai hk_.1.2.2.2.2.2.2.2.2.1 (ai hk_.1.2.2.2.2.2.2.2.2.2.1 hk_.1.2.2.2.2.2.2.2.2.2.2)))))))))); replace HO603 := km hkp (ra HO603.out HO_9) (fun k_ hk_ => hk_.2) (fun k_ hk_ => ai hk_.1.1 (ai hk_.1.2.1 (ai hk_.1.2.2.1 (ai hk_.1.2.2.2.1 (ai hk_.1.2.2.2.2.1 (ai hk_.1.2.2.2.2.2.1 (ai hk_.1.2.2.2.2.2.2.1 (ai hk_.1.2.2.2.2.2.2.2.1 (ai hk_.1.2.2.2.2.2.2.2.2.1 (ai hk_.1.2.2.2.2.2.2.2.2.2.1 hk_.1.2.2.2.2.2.2.2.2.2.2)))))))))); replace HO_9 := dk (Kd.R_reok rfl hy0 (fun k_ e_ => HO_9.out.1 k_ e_)); replace HO607 := km hkp HO607.out (fun k_ hk_ => hk_) (fun k_ hk_ => hk_); replace HB := dk (hb); (try clear hb hkp hy0)))
        (try simp only [Act.put, List.setIfInBounds_toArray, List.set_cons_zero, List.set_cons_succ])
        go_cut [82] (fun v82 wc => ∃ (kq : Nat) (x82_101 : Bool), v82 = .bool x82_101 ∧ Aside0 (laws_FnExactDecide.j1 kq l1 t538 x82_101 l0_0 a0_1 a0_2 a0_3 l0_4 a0_5 l0_6 l0_7 l0_8 t519 t522 t523 t524 t525 t528 t529 t532 t535 t563 t566 t567 t568 t569 t572 t573 t576 t579 = some r) ∧ Aside0 (kq ≤ kj17) ∧ Aside0 (Kd.R k139 139 wc w.heap.size (fun k_ => nb k_ Ao40 t540.length co40 ∧ nb k_ Ao53 t563.length co53) (.slice Ao30 t519.length co30) t519) ∧ Aside0 (Kd.R (Kd.int .i64) 3 wc w.heap.size (fun k_ => nb k_ Ao35 t532.length co35 ∧ nb k_ Ao36 t535.length co36 ∧ nb k_ Ao44 t546.length co44 ∧ nb k_ Ao46 t553.length co46 ∧ nb k_ Ao47 t556.length co47 ∧ nb k_ Ao58 t569.length co58 ∧ nb k_ Ao60 t576.length co60 ∧ nb k_ Ao61 t579.length co61) (.slice Ao33 t525.length co33) t525) ∧ Aside0 (Kd.R k95 95 wc w.heap.size (fun k_ => nb k_ Ao45 t550.length co45 ∧ nb k_ Ao59 t573.length co59) (.slice Ao34 t529.length co34) t529) ∧ Aside0 (Kd.R (Kd.int .i64) 3 wc w.heap.size (fun k_ => nb k_ Ao33 t525.length co33 ∧ nb k_ Ao36 t535.length co36 ∧ nb k_ Ao44 t546.length co44 ∧ nb k_ Ao46 t553.length co46 ∧ nb k_ Ao47 t556.length co47 ∧ nb k_ Ao58 t569.length co58 ∧ nb k_ Ao60 t576.length co60 ∧ nb k_ Ao61 t579.length co61) (.slice Ao35 t532.length co35) t532) ∧ Aside0 (Kd.R (Kd.int .i64) 3 wc w.heap.size (fun k_ => nb k_ Ao33 t525.length co33 ∧ nb k_ Ao35 t532.length co35 ∧ nb k_ Ao44 t546.length co44 ∧ nb k_ Ao46 t553.length co46 ∧ nb k_ Ao47 t556.length co47 ∧ nb k_ Ao58 t569.length co58 ∧ nb k_ Ao60 t576.length co60 ∧ nb k_ Ao61 t579.length co61) (.slice Ao36 t535.length co36) t535) ∧ Aside0 (Kd.R k139 139 wc w.heap.size (fun k_ => nb k_ Ao30 t519.length co30 ∧ nb k_ Ao53 t563.length co53) (.slice Ao40 t540.length co40) t610) ∧ Aside0 (Kd.R (Kd.int .i64) 3 wc w.heap.size (fun k_ => nb k_ Ao33 t525.length co33 ∧ nb k_ Ao35 t532.length co35 ∧ nb k_ Ao36 t535.length co36 ∧ nb k_ Ao46 t553.length co46 ∧ nb k_ Ao47 t556.length co47 ∧ nb k_ Ao58 t569.length co58 ∧ nb k_ Ao60 t576.length co60 ∧ nb k_ Ao61 t579.length co61) (.slice Ao44 t546.length co44) t611) ∧ Aside0 (Kd.R k95 95 wc w.heap.size (fun k_ => nb k_ Ao34 t529.length co34 ∧ nb k_ Ao59 t573.length co59) (.slice Ao45 t550.length co45) t612) ∧ Aside0 (Kd.R (Kd.int .i64) 3 wc w.heap.size (fun k_ => nb k_ Ao33 t525.length co33 ∧ nb k_ Ao35 t532.length co35 ∧ nb k_ Ao36 t535.length co36 ∧ nb k_ Ao44 t546.length co44 ∧ nb k_ Ao47 t556.length co47 ∧ nb k_ Ao58 t569.length co58 ∧ nb k_ Ao60 t576.length co60 ∧ nb k_ Ao61 t579.length co61) (.slice Ao46 t553.length co46) t613) ∧ Aside0 (Kd.R (Kd.int .i64) 3 wc w.heap.size (fun k_ => nb k_ Ao33 t525.length co33 ∧ nb k_ Ao35 t532.length co35 ∧ nb k_ Ao36 t535.length co36 ∧ nb k_ Ao44 t546.length co44 ∧ nb k_ Ao46 t553.length co46 ∧ nb k_ Ao58 t569.length co58 ∧ nb k_ Ao60 t576.length co60 ∧ nb k_ Ao61 t579.length co61) (.slice Ao47 t556.length co47) t614) ∧ Aside0 (Kd.R k139 139 wc w.heap.size (fun k_ => nb k_ Ao30 t519.length co30 ∧ nb k_ Ao40 t540.length co40) (.slice Ao53 t563.length co53) t563) ∧ Aside0 (Kd.R (Kd.int .i64) 3 wc w.heap.size (fun k_ => nb k_ Ao33 t525.length co33 ∧ nb k_ Ao35 t532.length co35 ∧ nb k_ Ao36 t535.length co36 ∧ nb k_ Ao44 t546.length co44 ∧ nb k_ Ao46 t553.length co46 ∧ nb k_ Ao47 t556.length co47 ∧ nb k_ Ao60 t576.length co60 ∧ nb k_ Ao61 t579.length co61) (.slice Ao58 t569.length co58) t569) ∧ Aside0 (Kd.R k95 95 wc w.heap.size (fun k_ => nb k_ Ao34 t529.length co34 ∧ nb k_ Ao45 t550.length co45) (.slice Ao59 t573.length co59) t573) ∧ Aside0 (Kd.R (Kd.int .i64) 3 wc w.heap.size (fun k_ => nb k_ Ao33 t525.length co33 ∧ nb k_ Ao35 t532.length co35 ∧ nb k_ Ao36 t535.length co36 ∧ nb k_ Ao44 t546.length co44 ∧ nb k_ Ao46 t553.length co46 ∧ nb k_ Ao47 t556.length co47 ∧ nb k_ Ao58 t569.length co58 ∧ nb k_ Ao61 t579.length co61) (.slice Ao60 t576.length co60) t576) ∧ Aside0 (Kd.R (Kd.int .i64) 3 wc w.heap.size (fun k_ => nb k_ Ao33 t525.length co33 ∧ nb k_ Ao35 t532.length co35 ∧ nb k_ Ao36 t535.length co36 ∧ nb k_ Ao44 t546.length co44 ∧ nb k_ Ao46 t553.length co46 ∧ nb k_ Ao47 t556.length co47 ∧ nb k_ Ao58 t569.length co58 ∧ nb k_ Ao60 t576.length co60) (.slice Ao61 t579.length co61) t579) ∧ Aside0 (wc.heap[gb494]? = some (.cells #[(.slice A0_0 l0_0.length c0_0), .int .i64 a0_1, .int .i64 a0_2, .int .i64 a0_3, (.slice A0_4 l0_4.length c0_4), .bool a0_5, (.slice A0_6 l0_6.length c0_6), (.slice A0_7 l0_7.length c0_7), (.slice A0_8 l0_8.length c0_8)] 28 (0, 0))) ∧ Aside0 (wc.heap[gb539]? = some (.cells #[(.slice Ao30 t519.length co30), .int .i64 t522, .int .i64 t523, .int .i64 t524, (.slice Ao33 t525.length co33), .bool t528, (.slice Ao34 t529.length co34), (.slice Ao35 t532.length co35), (.slice Ao36 t535.length co36)] 36 (0, 0))) ∧ Aside0 (wc.heap[gb559]? = some (.cells #[(.slice Ao40 t540.length co40), .int .i64 t543, .int .i64 t544, .int .i64 t545, (.slice Ao44 t546.length co44), .bool t549, (.slice Ao45 t550.length co45), (.slice Ao46 t553.length co46), (.slice Ao47 t556.length co47)] 36 (0, 0))) ∧ Aside0 (wc.heap[gb583]? = some (.cells #[(.slice Ao53 t563.length co53), .int .i64 t566, .int .i64 t567, .int .i64 t568, (.slice Ao58 t569.length co58), .bool t572, (.slice Ao59 t573.length co59), (.slice Ao60 t576.length co60), (.slice Ao61 t579.length co61)] 36 (0, 0))) ∧ Aside0 (Below w.heap.size w wc))
        case first =>
         have H := HC102.out
         clear HC102
         by_cases c109 : t615 < 0
         ·rw [if_pos c109] at H
          have c109b0 : decide (t615 < 0) = true := decide_eq_true c109
          clear c109
          (first | rw [c109b0] | rw [c109b1] | (simp only [i64_w, i32_w]; rw [c109b0]) | skip)
          have H' := dk H
          clear H
          go_wp2
          go_meet
          case rel => exact ⟨_, (true), e2_, H', ⟨by have := HJ17.out; first | omega | exact Nat.le_refl _⟩, ⟨ro HO_540000 (fun _ hk => ⟨hk.1, hk.2.1⟩)⟩, ⟨rp HO_540004⟩, ⟨ro HO_540006 (fun _ hk => ⟨hk.1, hk.2.1⟩)⟩, ⟨rp HO_540007⟩, ⟨rp HO_540008⟩, ⟨ro HO_560000 (fun _ hk => ⟨hk.1, hk.2.1⟩)⟩, ⟨rp HO_560004⟩, ⟨ro HO_560006 (fun _ hk => ⟨hk.1, hk.2.1⟩)⟩, ⟨rp HO_560007⟩, ⟨rp HO_560008⟩, ⟨ro HO_584000 (fun _ hk => ⟨hk.1, hk.2.1⟩)⟩, ⟨rp HO_584004⟩, ⟨ro HO_584006 (fun _ hk => ⟨hk.1, hk.2.1⟩)⟩, ⟨rp HO_584007⟩, ⟨rp HO_584008⟩, ⟨bk BK494⟩, ⟨bk BK539⟩, ⟨bk BK559⟩, ⟨bk BK583⟩, ⟨bb HB⟩⟩
         ·rw [if_neg c109] at H
          have c109b0 : decide (t615 < 0) = false := decide_eq_false c109
          clear c109
          (first | rw [c109b0] | rw [c109b1] | (simp only [i64_w, i32_w]; rw [c109b0]) | skip)
          replace H := Option.bind_eq_some_iff.mp H
          obtain ⟨t617, A1100, H⟩ := H
          try dsimp only at H
          have A110 := dk A1100
          clear A1100
          by_cases c111 : t617 = true
          ·subst c111
           rw [if_pos rfl] at H
           have H' := dk H
           clear H
           have hnb112 := NB583_494.out
           have hnc112 := NB494_583.out
           have hnb113 := NB583_539.out
           have hnc113 := NB539_583.out
           have hnb114 := NB583_559.out
           have hnc114 := NB559_583.out
           have ⟨z115_0, z115_1, z115_2, z115_3, z115_4, z115_5, z115_6, z115_7, z115_8, v115_0, v115_1, v115_2, v115_3, v115_4, v115_5, v115_6, v115_7, v115_8⟩ := rz9 BK583
           have hnb116 := NB539_494.out
           have hnc116 := NB494_539.out
           have hnb117 := NB539_559.out
           have hnc117 := NB559_539.out
           have ⟨z118_0, z118_1, z118_2, z118_3, z118_4, z118_5, z118_6, z118_7, z118_8, v118_0, v118_1, v118_2, v118_3, v118_4, v118_5, v118_6, v118_7, v118_8⟩ := rz9 BK539
           go_wp2_with (first | (go_at_call 16; (with_reducible refine (laws_eqBook.calls kj17 _ _ t563 t566 t567 t568 _ _ t569 t572 _ _ t573 _ _ t576 _ _ t579 _ _ t519 t522 t523 t524 _ _ t525 t528 _ _ t529 _ _ t532 _ _ t535 true _ ?side1 ?side2 ?side3 ?side4 ?side5 ?side6 ?side7 ?side8 ?side9 ?side10 ?side11 ?side12 ?side13 ?side14 ?side15 ?side16 ?side17 ?side18 ?side19 ?side20 A110.out).mono ?_); (case side1 => exact cr HO_584000); (case side2 => exact cl HO_584000); (case side3 => exact cr HO_584004); (case side4 => exact cl HO_584004); (case side5 => exact cr HO_584006); (case side6 => exact cl HO_584006); (case side7 => exact cr HO_584007); (case side8 => exact cl HO_584007); (case side9 => exact cr HO_584008); (case side10 => exact cl HO_584008); (case side11 => exact cr HO_540000); (case side12 => exact cl HO_540000); (case side13 => exact cr HO_540004); (case side14 => exact cl HO_540004); (case side15 => exact cr HO_540006); (case side16 => exact cl HO_540006); (case side17 => exact cr HO_540007); (case side18 => exact cl HO_540007); (case side19 => exact cr HO_540008); (case side20 => exact cl HO_540008); rintro e w119 ⟨rfl, hb⟩; replace HO_9 := kr HO_9 hb; replace HO_540000 := kr HO_540000 hb; replace HO_540004 := kr HO_540004 hb; replace HO_540006 := kr HO_540006 hb; replace HO_540007 := kr HO_540007 hb; replace HO_540008 := kr HO_540008 hb; replace HO_560000 := kr HO_560000 hb; replace HO_560004 := kr HO_560004 hb; replace HO_560006 := kr HO_560006 hb; replace HO_560007 := kr HO_560007 hb; replace HO_560008 := kr HO_560008 hb; replace HO_584000 := kr HO_584000 hb; replace HO_584004 := kr HO_584004 hb; replace HO_584006 := kr HO_584006 hb; replace HO_584007 := kr HO_584007 hb; replace HO_584008 := kr HO_584008 hb; replace HO587 := kr HO587 hb; replace HO593 := kr HO593 hb; replace HO597 := kr HO597 hb; replace HO600 := kr HO600 hb; replace HO603 := kr HO603 hb; replace HO607 := kr HO607 hb; replace BK494 := kb BK494 hb; replace BK539 := kb BK539 hb; replace BK559 := kb BK559 hb; replace BK583 := kb BK583 hb; replace HB := hs_ HB hb; (try clear hb hb2 hk hi)))
           go_meet
           case rel => exact ⟨_, ((t582 != t538)), e2_, H', ⟨by have := HJ17.out; first | omega | exact Nat.le_refl _⟩, ⟨ro HO_540000 (fun _ hk => ⟨hk.1, hk.2.1⟩)⟩, ⟨rp HO_540004⟩, ⟨ro HO_540006 (fun _ hk => ⟨hk.1, hk.2.1⟩)⟩, ⟨rp HO_540007⟩, ⟨rp HO_540008⟩, ⟨ro HO_560000 (fun _ hk => ⟨hk.1, hk.2.1⟩)⟩, ⟨rp HO_560004⟩, ⟨ro HO_560006 (fun _ hk => ⟨hk.1, hk.2.1⟩)⟩, ⟨rp HO_560007⟩, ⟨rp HO_560008⟩, ⟨ro HO_584000 (fun _ hk => ⟨hk.1, hk.2.1⟩)⟩, ⟨rp HO_584004⟩, ⟨ro HO_584006 (fun _ hk => ⟨hk.1, hk.2.1⟩)⟩, ⟨rp HO_584007⟩, ⟨rp HO_584008⟩, ⟨bk BK494⟩, ⟨bk BK539⟩, ⟨bk BK559⟩, ⟨bk BK583⟩, ⟨bb HB⟩⟩
          ·replace c111 := Bool.eq_false_iff.mpr c111
           subst c111
           rw [if_neg (show ¬ (false = true) by decide)] at H
           have H' := dk H
           clear H
           have hnb120 := NB583_494.out
           have hnc120 := NB494_583.out
           have hnb121 := NB583_539.out
           have hnc121 := NB539_583.out
           have hnb122 := NB583_559.out
           have hnc122 := NB559_583.out
           have ⟨z123_0, z123_1, z123_2, z123_3, z123_4, z123_5, z123_6, z123_7, z123_8, v123_0, v123_1, v123_2, v123_3, v123_4, v123_5, v123_6, v123_7, v123_8⟩ := rz9 BK583
           have hnb124 := NB539_494.out
           have hnc124 := NB494_539.out
           have hnb125 := NB539_559.out
           have hnc125 := NB559_539.out
           have ⟨z126_0, z126_1, z126_2, z126_3, z126_4, z126_5, z126_6, z126_7, z126_8, v126_0, v126_1, v126_2, v126_3, v126_4, v126_5, v126_6, v126_7, v126_8⟩ := rz9 BK539
           go_wp2_with (first | (go_at_call 16; (with_reducible refine (laws_eqBook.calls kj17 _ _ t563 t566 t567 t568 _ _ t569 t572 _ _ t573 _ _ t576 _ _ t579 _ _ t519 t522 t523 t524 _ _ t525 t528 _ _ t529 _ _ t532 _ _ t535 false _ ?side1 ?side2 ?side3 ?side4 ?side5 ?side6 ?side7 ?side8 ?side9 ?side10 ?side11 ?side12 ?side13 ?side14 ?side15 ?side16 ?side17 ?side18 ?side19 ?side20 A110.out).mono ?_); (case side1 => exact cr HO_584000); (case side2 => exact cl HO_584000); (case side3 => exact cr HO_584004); (case side4 => exact cl HO_584004); (case side5 => exact cr HO_584006); (case side6 => exact cl HO_584006); (case side7 => exact cr HO_584007); (case side8 => exact cl HO_584007); (case side9 => exact cr HO_584008); (case side10 => exact cl HO_584008); (case side11 => exact cr HO_540000); (case side12 => exact cl HO_540000); (case side13 => exact cr HO_540004); (case side14 => exact cl HO_540004); (case side15 => exact cr HO_540006); (case side16 => exact cl HO_540006); (case side17 => exact cr HO_540007); (case side18 => exact cl HO_540007); (case side19 => exact cr HO_540008); (case side20 => exact cl HO_540008); rintro e w127 ⟨rfl, hb⟩; replace HO_9 := kr HO_9 hb; replace HO_540000 := kr HO_540000 hb; replace HO_540004 := kr HO_540004 hb; replace HO_540006 := kr HO_540006 hb; replace HO_540007 := kr HO_540007 hb; replace HO_540008 := kr HO_540008 hb; replace HO_560000 := kr HO_560000 hb; replace HO_560004 := kr HO_560004 hb; replace HO_560006 := kr HO_560006 hb; replace HO_560007 := kr HO_560007 hb; replace HO_560008 := kr HO_560008 hb; replace HO_584000 := kr HO_584000 hb; replace HO_584004 := kr HO_584004 hb; replace HO_584006 := kr HO_584006 hb; replace HO_584007 := kr HO_584007 hb; replace HO_584008 := kr HO_584008 hb; replace HO587 := kr HO587 hb; replace HO593 := kr HO593 hb; replace HO597 := kr HO597 hb; replace HO600 := kr HO600 hb; replace HO603 := kr HO603 hb; replace HO607 := kr HO607 hb; replace BK494 := kb BK494 hb; replace BK539 := kb BK539 hb; replace BK559 := kb BK559 hb; replace BK583 := kb BK583 hb; replace HB := hs_ HB hb; (try clear hb hb2 hk hi)))
           go_meet
           case rel => exact ⟨_, (true), e2_, H', ⟨by have := HJ17.out; first | omega | exact Nat.le_refl _⟩, ⟨ro HO_540000 (fun _ hk => ⟨hk.1, hk.2.1⟩)⟩, ⟨rp HO_540004⟩, ⟨ro HO_540006 (fun _ hk => ⟨hk.1, hk.2.1⟩)⟩, ⟨rp HO_540007⟩, ⟨rp HO_540008⟩, ⟨ro HO_560000 (fun _ hk => ⟨hk.1, hk.2.1⟩)⟩, ⟨rp HO_560004⟩, ⟨ro HO_560006 (fun _ hk => ⟨hk.1, hk.2.1⟩)⟩, ⟨rp HO_560007⟩, ⟨rp HO_560008⟩, ⟨ro HO_584000 (fun _ hk => ⟨hk.1, hk.2.1⟩)⟩, ⟨rp HO_584004⟩, ⟨ro HO_584006 (fun _ hk => ⟨hk.1, hk.2.1⟩)⟩, ⟨rp HO_584007⟩, ⟨rp HO_584008⟩, ⟨bk BK494⟩, ⟨bk BK539⟩, ⟨bk BK559⟩, ⟨bk BK583⟩, ⟨bb HB⟩⟩
        case rest =>
         clear HC102
         (try clear c1)
         (try clear p2)
         (try clear c8)
         (try clear c9)
         (try clear c10)
         (try clear c11)
         (try clear c12)
         (try clear c13)
         (try clear c14)
         (try clear c16)
         (try clear c17)
         (try clear c18)
         (try clear c19)
         (try clear c80)
         (try clear c92)
         (try clear c99)
         (try clear c103)
         (try clear c104)
         (try clear c105)
         (try clear c109)
         (try clear c109b0)
         (try clear c109b1)
         (try clear c111)
         (try clear c112)
         (try clear c113)
         (try clear c114)
         (try clear c116)
         (try clear c117)
         (try clear c120)
         (try clear c121)
         (try clear c122)
         (try clear c124)
         (try clear c125)
         (try clear z106_0 z106_1 z106_2 z106_3 z106_4 z106_5 z106_6 z106_7 z106_8)
         (try clear z115_0 z115_1 z115_2 z115_3 z115_4 z115_5 z115_6 z115_7 z115_8)
         (try clear z118_0 z118_1 z118_2 z118_3 z118_4 z118_5 z118_6 z118_7 z118_8)
         (try clear z123_0 z123_1 z123_2 z123_3 z123_4 z123_5 z123_6 z123_7 z123_8)
         (try clear z126_0 z126_1 z126_2 z126_3 z126_4 z126_5 z126_6 z126_7 z126_8)
         (try clear v106_0 v106_1 v106_2 v106_3 v106_4 v106_5 v106_6 v106_7 v106_8)
         (try clear v115_0 v115_1 v115_2 v115_3 v115_4 v115_5 v115_6 v115_7 v115_8)
         (try clear v118_0 v118_1 v118_2 v118_3 v118_4 v118_5 v118_6 v118_7 v118_8)
         (try clear v123_0 v123_1 v123_2 v123_3 v123_4 v123_5 v123_6 v123_7 v123_8)
         (try clear v126_0 v126_1 v126_2 v126_3 v126_4 v126_5 v126_6 v126_7 v126_8)
         (try clear v6_1 v6_2 v6_3 v6_4 v6_5 v6_6 v6_7 v6_8)
         (try clear v70_0 v70_1 v70_2 v70_3 v70_4 v70_5 v70_6 v70_7 v70_8)
         (try clear v75_0 v75_1 v75_2 v75_3 v75_4 v75_5 v75_6 v75_7 v75_8)
         (try clear v78_0 v78_1 v78_2 v78_3 v78_4 v78_5 v78_6 v78_7 v78_8)
         obtain ⟨kq, x82_101, rfl, HA, HJ101, HO_540000, HO_540004, HO_540006, HO_540007, HO_540008, HO_560000, HO_560004, HO_560006, HO_560007, HO_560008, HO_584000, HO_584004, HO_584006, HO_584007, HO_584008, BK494, BK539, BK559, BK583, HB⟩ := hcut
         have hl560000_101 := (Kd.R_reads' HO_560000.out).1
         rw [hl560000_101] at HO_560000
         (try simp only [hl560000_101] at BK494 BK539 BK559 BK583 HO_540000 HO_540004 HO_540006 HO_540007 HO_540008 HO_560004 HO_560006 HO_560007 HO_560008 HO_584000 HO_584004 HO_584006 HO_584007 HO_584008 ⊢)
         have hl560004_101 := (Kd.R_reads' HO_560004.out).1
         rw [hl560004_101] at HO_560004
         (try simp only [hl560004_101] at BK494 BK539 BK559 BK583 HO_540000 HO_540004 HO_540006 HO_540007 HO_540008 HO_560000 HO_560006 HO_560007 HO_560008 HO_584000 HO_584004 HO_584006 HO_584007 HO_584008 ⊢)
         have hl560006_101 := (Kd.R_reads' HO_560006.out).1
         rw [hl560006_101] at HO_560006
         (try simp only [hl560006_101] at BK494 BK539 BK559 BK583 HO_540000 HO_540004 HO_540006 HO_540007 HO_540008 HO_560000 HO_560004 HO_560007 HO_560008 HO_584000 HO_584004 HO_584006 HO_584007 HO_584008 ⊢)
         have hl560007_101 := (Kd.R_reads' HO_560007.out).1
         rw [hl560007_101] at HO_560007
         (try simp only [hl560007_101] at BK494 BK539 BK559 BK583 HO_540000 HO_540004 HO_540006 HO_540007 HO_540008 HO_560000 HO_560004 HO_560006 HO_560008 HO_584000 HO_584004 HO_584006 HO_584007 HO_584008 ⊢)
         have hl560008_101 := (Kd.R_reads' HO_560008.out).1
         rw [hl560008_101] at HO_560008
         (try simp only [hl560008_101] at BK494 BK539 BK559 BK583 HO_540000 HO_540004 HO_540006 HO_540007 HO_540008 HO_560000 HO_560004 HO_560006 HO_560007 HO_584000 HO_584004 HO_584006 HO_584007 HO_584008 ⊢)
         cases kq with
         | zero => exact absurd HA.out (by simp [laws_FnExactDecide.j1])
         | succ kj101 =>
          have H := HA.out
          clear HA
          simp only [laws_FnExactDecide.j1] at H
          by_cases c128 : x82_101 = true
          ·subst c128
           rw [if_pos rfl] at H
           obtain rfl := Option.some.inj H
           go_wp2
           go_ret
           exact ⟨ee, bb HB⟩
          ·replace c128 := Bool.eq_false_iff.mpr c128
           subst c128
           rw [if_neg (show ¬ (false = true) by decide)] at H
           replace H := Option.bind_eq_some_iff.mp H
           obtain ⟨⟨t618, t619, t620, t621, t622, t623⟩, A1290, H⟩ := H
           try dsimp only at H
           have A129 := dk A1290
           clear A1290
           replace H := Option.bind_eq_some_iff.mp H
           obtain ⟨t624, A1300, H⟩ := H
           try dsimp only at H
           have A130 := dk A1300
           clear A1300
           have HC131 := dk H
           clear H
           have hnb132 := NB583_494.out
           have hnc132 := NB494_583.out
           have hnb133 := NB583_539.out
           have hnc133 := NB539_583.out
           have hnb134 := NB583_559.out
           have hnc134 := NB559_583.out
           have ⟨z135_0, z135_1, z135_2, z135_3, z135_4, z135_5, z135_6, z135_7, z135_8, v135_0, v135_1, v135_2, v135_3, v135_4, v135_5, v135_6, v135_7, v135_8⟩ := rz9 BK583
           go_upto_if 90 with (first | ((with_reducible refine gate_callee (f := 18) rfl ?_); refine gl (some 85) Try.func18 #[.agg #[.slice Ao53 t563.length co53, .int .i64 t566, .int .i64 t567, .int .i64 t568, .slice Ao58 t569.length co58, .bool t572, .slice Ao59 t573.length co59, .slice Ao60 t576.length co60, .slice Ao61 t579.length co61], .int .i64 1] ?_; (with_reducible refine (laws_markBook.calls kj101 (fun k_ => some k_ = (.slice Ao53 t563.length co53 : Value).ownBlock) (.slice Ao53 t563.length co53) t563 t566 t567 t568 (fun k_ => some k_ = (.slice Ao58 t569.length co58 : Value).ownBlock) (.slice Ao58 t569.length co58) t569 t572 (fun k_ => some k_ = (.slice Ao59 t573.length co59 : Value).ownBlock) (.slice Ao59 t573.length co59) t573 (fun k_ => some k_ = (.slice Ao60 t576.length co60 : Value).ownBlock) (.slice Ao60 t576.length co60) t576 (fun k_ => some k_ = (.slice Ao61 t579.length co61 : Value).ownBlock) (.slice Ao61 t579.length co61) t579 1 t618 t619 t620 t621 t622 t623 w _ ?side1 ?side2 ?side3 ?side4 ?side5 ?side6 ?side7 ?side8 ?side9 ?side10 ?side11 ?side12 A129.out).mono ?_); (case side1 => exact bb HB); (case side2 => exact Kd.R_tight rfl HO_584000.out); (case side3 => exact Kd.R_tight rfl HO_584004.out); (case side4 => exact fun k_ e_ => (HO_584004.out.1 k_ e_.symm).2.2.2.2.2.2.1); (case side5 => exact fun k_ e_ => (HO_584004.out.1 k_ e_.symm).2.2.2.2.2.2.2); (case side6 => exact Kd.R_tight rfl HO_584006.out); (case side7 => exact Kd.R_tight rfl HO_584007.out); (case side8 => exact fun k_ e_ => (HO_584007.out.1 k_ e_.symm).2.2.2.2.2.2.1); (case side9 => exact fun k_ e_ => (HO_584007.out.1 k_ e_.symm).2.2.2.2.2.2.2); (case side10 => exact Kd.R_tight rfl HO_584008.out); (case side11 => exact fun k_ e_ => (HO_584008.out.1 k_ e_.symm).2.2.2.2.2.2.1); (case side12 => exact fun k_ e_ => (HO_584008.out.1 k_ e_.symm).2.2.2.2.2.2.2); rintro e w136 ⟨rfl, hy0, hy1, hy2, hy3, hy4, hb, hkp⟩; refine ⟨_, rfl, ?_⟩; replace HO_540000 := km hkp (ra (ra (ra (ra HO_540000.out HO_584004) HO_584006) HO_584007) HO_584008) (fun k_ hk_ => oe hk_.1.1.1.1.2 (oe hk_.1.1.1.2 (oe hk_.1.1.2 (oe hk_.1.2 hk_.2)))) (fun k_ hk_ => ai hk_.1.1.1.1.1 hk_.1.1.1.1.2); replace HO_540004 := km hkp (ra (ra HO_540004.out HO_584000) HO_584006) (fun k_ hk_ => oe hk_.1.2 (oe hk_.1.1.2.2.2.2.2.1 (oe hk_.2 (oe hk_.1.1.2.2.2.2.2.2.1 hk_.1.1.2.2.2.2.2.2.2)))) (fun k_ hk_ => ai hk_.1.1.1 (ai hk_.1.1.2.1 (ai hk_.1.1.2.2.1 (ai hk_.1.1.2.2.2.1 (ai hk_.1.1.2.2.2.2.1 (ai hk_.1.1.2.2.2.2.2.1 (ai hk_.1.1.2.2.2.2.2.2.1 hk_.1.1.2.2.2.2.2.2.2))))))); replace HO_540006 := km hkp (ra (ra (ra (ra HO_540006.out HO_584000) HO_584004) HO_584007) HO_584008) (fun k_ hk_ => oe hk_.1.1.1.2 (oe hk_.1.1.2 (oe hk_.1.1.1.1.2 (oe hk_.1.2 hk_.2)))) (fun k_ hk_ => ai hk_.1.1.1.1.1 hk_.1.1.1.1.2); replace HO_540007 := km hkp (ra (ra HO_540007.out HO_584000) HO_584006) (fun k_ hk_ => oe hk_.1.2 (oe hk_.1.1.2.2.2.2.2.1 (oe hk_.2 (oe hk_.1.1.2.2.2.2.2.2.1 hk_.1.1.2.2.2.2.2.2.2)))) (fun k_ hk_ => ai hk_.1.1.1 (ai hk_.1.1.2.1 (ai hk_.1.1.2.2.1 (ai hk_.1.1.2.2.2.1 (ai hk_.1.1.2.2.2.2.1 (ai hk_.1.1.2.2.2.2.2.1 (ai hk_.1.1.2.2.2.2.2.2.1 hk_.1.1.2.2.2.2.2.2.2))))))); replace HO_540008 := km hkp (ra (ra HO_540008.out HO_584000) HO_584006) (fun k_ hk_ => oe hk_.1.2 (oe hk_.1.1.2.2.2.2.2.1 (oe hk_.2 (oe hk_.1.1.2.2.2.2.2.2.1 hk_.1.1.2.2.2.2.2.2.2)))) (fun k_ hk_ => ai hk_.1.1.1 (ai hk_.1.1.2.1 (ai hk_.1.1.2.2.1 (ai hk_.1.1.2.2.2.1 (ai hk_.1.1.2.2.2.2.1 (ai hk_.1.1.2.2.2.2.2.1 (ai hk_.1.1.2.2.2.2.2.2.1 hk_.1.1.2.2.2.2.2.2.2))))))); replace HO_560000 := km hkp (ra (ra (ra (ra HO_560000.out HO_584004) HO_584006) HO_584007) HO_584008) (fun k_ hk_ => oe hk_.1.1.1.1.2 (oe hk_.1.1.1.2 (oe hk_.1.1.2 (oe hk_.1.2 hk_.2)))) (fun k_ hk_ => ai hk_.1.1.1.1.1 hk_.1.1.1.1.2); replace HO_560004 := km hkp (ra (ra HO_560004.out HO_584000) HO_584006) (fun k_ hk_ => oe hk_.1.2 (oe hk_.1.1.2.2.2.2.2.1 (oe hk_.2 (oe hk_.1.1.2.2.2.2.2.2.1 hk_.1.1.2.2.2.2.2.2.2)))) (fun k_ hk_ => ai hk_.1.1.1 (ai hk_.1.1.2.1 (ai hk_.1.1.2.2.1 (ai hk_.1.1.2.2.2.1 (ai hk_.1.1.2.2.2.2.1 (ai hk_.1.1.2.2.2.2.2.1 (ai hk_.1.1.2.2.2.2.2.2.1 hk_.1.1.2.2.2.2.2.2.2))))))); replace HO_560006 := km hkp (ra (ra (ra (ra HO_560006.out HO_584000) HO_584004) HO_584007) HO_584008) (fun k_ hk_ => oe hk_.1.1.1.2 (oe hk_.1.1.2 (oe hk_.1.1.1.1.2 (oe hk_.1.2 hk_.2)))) (fun k_ hk_ => ai hk_.1.1.1.1.1 hk_.1.1.1.1.2); replace HO_560007 := km hkp (ra (ra HO_560007.out HO_584000) HO_584006) (fun k_ hk_ => oe hk_.1.2 (oe hk_.1.1.2.2.2.2.2.1 (oe hk_.2 (oe hk_.1.1.2.2.2.2.2.2.1 hk_.1.1.2.2.2.2.2.2.2)))) (fun k_ hk_ => ai hk_.1.1.1 (ai hk_.1.1.2.1 (ai hk_.1.1.2.2.1 (ai hk_.1.1.2.2.2.1 (ai hk_.1.1.2.2.2.2.1 (ai hk_.1.1.2.2.2.2.2.1 (ai hk_.1.1.2.2.2.2.2.2.1 hk_.1.1.2.2.2.2.2.2.2))))))); replace HO_560008 := km hkp (ra (ra HO_560008.out HO_584000) HO_584006) (fun k_ hk_ => oe hk_.1.2 (oe hk_.1.1.2.2.2.2.2.1 (oe hk_.2 (oe hk_.1.1.2.2.2.2.2.2.1 hk_.1.1.2.2.2.2.2.2.2)))) (fun k_ hk_ => ai hk_.1.1.1 (ai hk_.1.1.2.1 (ai hk_.1.1.2.2.1 (ai hk_.1.1.2.2.2.1 (ai hk_.1.1.2.2.2.2.1 (ai hk_.1.1.2.2.2.2.2.1 (ai hk_.1.1.2.2.2.2.2.2.1 hk_.1.1.2.2.2.2.2.2.2))))))); replace BK494 := dk (blk_kept (bk BK494) hkp (fun hs_ => Or.elim hs_ (fun e_ => (fun e_ => (Kd.R_ne HO_584000.out BK494.out (by decide)) e_) e_) (fun e_ => Or.elim e_ (fun e_ => (fun e_ => (Kd.R_ne HO_584004.out BK494.out (by decide)) e_) e_) (fun e_ => Or.elim e_ (fun e_ => (fun e_ => (Kd.R_ne HO_584006.out BK494.out (by decide)) e_) e_) (fun e_ => Or.elim e_ (fun e_ => (fun e_ => (Kd.R_ne HO_584007.out BK494.out (by decide)) e_) e_) (fun e_ => (fun e_ => (Kd.R_ne HO_584008.out BK494.out (by decide)) e_) e_)))))); replace BK539 := dk (blk_kept (bk BK539) hkp (fun hs_ => Or.elim hs_ (fun e_ => (fun e_ => (Kd.R_ne HO_584000.out BK539.out (by decide)) e_) e_) (fun e_ => Or.elim e_ (fun e_ => (fun e_ => (Kd.R_ne HO_584004.out BK539.out (by decide)) e_) e_) (fun e_ => Or.elim e_ (fun e_ => (fun e_ => (Kd.R_ne HO_584006.out BK539.out (by decide)) e_) e_) (fun e_ => Or.elim e_ (fun e_ => (fun e_ => (Kd.R_ne HO_584007.out BK539.out (by decide)) e_) e_) (fun e_ => (fun e_ => (Kd.R_ne HO_584008.out BK539.out (by decide)) e_) e_)))))); replace BK559 := dk (blk_kept (bk BK559) hkp (fun hs_ => Or.elim hs_ (fun e_ => (fun e_ => (Kd.R_ne HO_584000.out BK559.out (by decide)) e_) e_) (fun e_ => Or.elim e_ (fun e_ => (fun e_ => (Kd.R_ne HO_584004.out BK559.out (by decide)) e_) e_) (fun e_ => Or.elim e_ (fun e_ => (fun e_ => (Kd.R_ne HO_584006.out BK559.out (by decide)) e_) e_) (fun e_ => Or.elim e_ (fun e_ => (fun e_ => (Kd.R_ne HO_584007.out BK559.out (by decide)) e_) e_) (fun e_ => (fun e_ => (Kd.R_ne HO_584008.out BK559.out (by decide)) e_) e_)))))); replace BK583 := dk (blk_kept (bk BK583) hkp (fun hs_ => Or.elim hs_ (fun e_ => (fun e_ => (Kd.R_ne HO_584000.out BK583.out (by decide)) e_) e_) (fun e_ => Or.elim e_ (fun e_ => (fun e_ => (Kd.R_ne HO_584004.out BK583.out (by decide)) e_) e_) (fun e_ => Or.elim e_ (fun e_ => (fun e_ => (Kd.R_ne HO_584006.out BK583.out (by decide)) e_) e_) (fun e_ => Or.elim e_ (fun e_ => (fun e_ => (Kd.R_ne HO_584007.out BK583.out (by decide)) e_) e_) (fun e_ => (fun e_ => (Kd.R_ne HO_584008.out BK583.out (by decide)) e_) e_)))))); replace HO_584000 := dk (Kd.R_reok rfl hy0 (fun k_ e_ => HO_584000.out.1 k_ e_)); replace HO_584004 := dk (Kd.R_reok rfl hy1 (fun k_ e_ => HO_584004.out.1 k_ e_)); replace HO_584006 := dk (Kd.R_reok rfl hy2 (fun k_ e_ => HO_584006.out.1 k_ e_)); replace HO_584007 := dk (Kd.R_reok rfl hy3 (fun k_ e_ => HO_584007.out.1 k_ e_)); replace HO_584008 := dk (Kd.R_reok rfl hy4 (fun k_ e_ => HO_584008.out.1 k_ e_)); replace HB := dk (hb); (try clear hb hkp hy0 hy1 hy2 hy3 hy4); have ⟨z137_0, z137_1, z137_2, z137_3, z137_4, z137_5, z137_6, z137_7, z137_8, v137_0, v137_1, v137_2, v137_3, v137_4, v137_5, v137_6, v137_7, v137_8⟩ := rz9 BK583) | ((with_reducible refine gate_callee (f := 20) rfl ?_); refine goesL_ (some 88) rfl rfl Try.func20 (by kernel_rfl) rfl #[.agg #[.slice Ao53 t619.length co53, .int .i64 t566, .int .i64 t567, .int .i64 t568, .slice Ao58 t620.length co58, .bool t572, .slice Ao59 t621.length co59, .slice Ao60 t622.length co60, .slice Ao61 t623.length co61], .int .i64 1] rfl (by (try simp only [List.map_toArray, List.map_cons, List.map_nil]); first | done | (rw [show t619.length = t563.length from (Kd.R_reads' HO_584000.out).1.symm, show t620.length = t569.length from (Kd.R_reads' HO_584004.out).1.symm, show t621.length = t573.length from (Kd.R_reads' HO_584006.out).1.symm, show t622.length = t576.length from (Kd.R_reads' HO_584007.out).1.symm, show t623.length = t579.length from (Kd.R_reads' HO_584008.out).1.symm] <;> rfl) | rfl | (simp only [List.length_drop, List.length_take]; rfl)) ?_; (with_reducible refine (laws_heldBook.calls kj101 _ _ t619 t566 t567 t568 _ _ t620 t572 _ _ t621 _ _ t622 _ _ t623 1 t624 _ ?side1 ?side2 ?side3 ?side4 ?side5 ?side6 ?side7 ?side8 ?side9 ?side10 A130.out).mono ?_); (case side1 => exact cr HO_584000); (case side2 => rw [show t619.length = t563.length from (Kd.R_reads' HO_584000.out).1.symm]; exact (Kd.R_reads' HO_584000.out).2.1); (case side3 => exact cr HO_584004); (case side4 => rw [show t620.length = t569.length from (Kd.R_reads' HO_584004.out).1.symm]; exact (Kd.R_reads' HO_584004.out).2.1); (case side5 => exact cr HO_584006); (case side6 => rw [show t621.length = t573.length from (Kd.R_reads' HO_584006.out).1.symm]; exact (Kd.R_reads' HO_584006.out).2.1); (case side7 => exact cr HO_584007); (case side8 => rw [show t622.length = t576.length from (Kd.R_reads' HO_584007.out).1.symm]; exact (Kd.R_reads' HO_584007.out).2.1); (case side9 => exact cr HO_584008); (case side10 => rw [show t623.length = t579.length from (Kd.R_reads' HO_584008.out).1.symm]; exact (Kd.R_reads' HO_584008.out).2.1); rintro e w138 ⟨rfl, hb⟩; refine ⟨_, rfl, ?_⟩; replace HO_540000 := kr HO_540000 hb; replace HO_540004 := kr HO_540004 hb; replace HO_540006 := kr HO_540006 hb; replace HO_540007 := kr HO_540007 hb; replace HO_540008 := kr HO_540008 hb; replace HO_560000 := kr HO_560000 hb; replace HO_560004 := kr HO_560004 hb; replace HO_560006 := kr HO_560006 hb; replace HO_560007 := kr HO_560007 hb; replace HO_560008 := kr HO_560008 hb; replace HO_584000 := kr HO_584000 hb; replace HO_584004 := kr HO_584004 hb; replace HO_584006 := kr HO_584006 hb; replace HO_584007 := kr HO_584007 hb; replace HO_584008 := kr HO_584008 hb; replace BK494 := kb BK494 hb; replace BK539 := kb BK539 hb; replace BK559 := kb BK559 hb; replace BK583 := kb BK583 hb; replace HB := hs_ HB hb; (try clear hb hb2 hk hi)))
           (try simp only [Act.put, List.setIfInBounds_toArray, List.set_cons_zero, List.set_cons_succ])
           have H := HC131.out
           clear HC131
           by_cases c139 : t624 < 0
           ·rw [if_pos c139] at H
            have c139b0 : decide (t624 < 0) = true := decide_eq_true c139
            clear c139
            (first | rw [c139b0] | rw [c139b1] | (simp only [i64_w, i32_w]; rw [c139b0]) | skip)
            obtain rfl := Option.some.inj H
            go_wp2
            go_ret
            exact ⟨ee, bb HB⟩
           ·rw [if_neg c139] at H
            have c139b0 : decide (t624 < 0) = false := decide_eq_false c139
            clear c139
            (first | rw [c139b0] | rw [c139b1] | (simp only [i64_w, i32_w]; rw [c139b0]) | skip)
            by_cases c140 : t624 = t618
            ·rw [if_pos c140] at H
             have c140b0 : (t624 == t618) = true := beq_iff_eq.mpr c140
             have c140b1 : (t624 != t618) = false := bne_eq_false_iff_eq.mpr c140
             clear c140
             replace H := Option.bind_eq_some_iff.mp H
             obtain ⟨⟨t625, t628, t629, t630, t631, t634, t635, t638, t641⟩, A1410, H⟩ := H
             try dsimp only at H
             have A141 := dk A1410
             clear A1410
             replace H := Option.bind_eq_some_iff.mp H
             obtain ⟨t644, A1420, H⟩ := H
             try dsimp only at H
             have A142 := dk A1420
             clear A1420
             replace H := Option.bind_eq_some_iff.mp H
             obtain ⟨⟨t647, t650, t651, t652, t653, t656, t657, t660, t663, t666⟩, A1430, H⟩ := H
             try dsimp only at H
             have A143 := dk A1430
             clear A1430
             have HC144 := dk H
             clear H
             have hnb145 := NB494_539.out
             have hnc145 := NB539_494.out
             have hnb146 := NB494_559.out
             have hnc146 := NB559_494.out
             have hnb147 := NB494_583.out
             have hnc147 := NB583_494.out
             have ⟨z148_0, z148_1, z148_2, z148_3, z148_4, z148_5, z148_6, z148_7, z148_8, v148_0, v148_1, v148_2, v148_3, v148_4, v148_5, v148_6, v148_7, v148_8⟩ := rz9 BK494
             go_upto_region 32 with (first | ((with_reducible refine gate_callee (f := 13) rfl ?_); refine gl (some 96) Try.func13 #[.agg #[.slice A0_0 l0_0.length c0_0, .int .i64 a0_1, .int .i64 a0_2, .int .i64 a0_3, .slice A0_4 l0_4.length c0_4, .bool a0_5, .slice A0_6 l0_6.length c0_6, .slice A0_7 l0_7.length c0_7, .slice A0_8 l0_8.length c0_8]] ?_; (with_reducible refine (laws_toBook.calls kj101 _ _ l0_0 a0_1 a0_2 a0_3 _ _ l0_4 a0_5 _ _ l0_6 _ _ l0_7 _ _ l0_8 t625 t628 t629 t630 t631 t634 t635 t638 t641 _ ?side1 ?side2 ?side3 ?side4 ?side5 ?side6 ?side7 ?side8 ?side9 ?side10 A141.out).mono ?_); (case side1 => exact cc HR0_0 HB); (case side2 => exact HC0_0.out); (case side3 => exact cc HR0_4 HB); (case side4 => exact HC0_4.out); (case side5 => exact cc HR0_6 HB); (case side6 => exact HC0_6.out); (case side7 => exact cc HR0_7 HB); (case side8 => exact HC0_7.out); (case side9 => exact cc HR0_8 HB); (case side10 => exact HC0_8.out); rintro e w149 ⟨v626, v632, v636, v639, v642, rfl, ho0, ho1, ho2, ho3, ho4, hb⟩; refine ⟨_, rfl, ?_⟩; have HO627 := dk (Kd.R_lower (Kd.R_new' (Kd.R_new' (Kd.R_new' ho0 (rt HO_540000)) (rt HO_560000)) (rt HO_584000)) (below_size (bb HB))); replace HO_540000 := ke HO_540000 ho0 hb; replace HO_560000 := ke HO_560000 ho0 hb; replace HO_584000 := ke HO_584000 ho0 hb; have HO633 := dk (Kd.R_lower (Kd.R_new' (Kd.R_new' (Kd.R_new' (Kd.R_new' (Kd.R_new' (Kd.R_new' (Kd.R_new' (Kd.R_new' (Kd.R_new' ho1 (rt HO_540004)) (rt HO_540007)) (rt HO_540008)) (rt HO_560004)) (rt HO_560007)) (rt HO_560008)) (rt HO_584004)) (rt HO_584007)) (rt HO_584008)) (below_size (bb HB))); have HO637 := dk (Kd.R_lower (Kd.R_new' (Kd.R_new' (Kd.R_new' ho2 (rt HO_540006)) (rt HO_560006)) (rt HO_584006)) (below_size (bb HB))); replace HO_540006 := ke HO_540006 ho2 hb; replace HO_560006 := ke HO_560006 ho2 hb; replace HO_584006 := ke HO_584006 ho2 hb; have HO640 := dk (Kd.R_lower (Kd.R_new' (Kd.R_new' (Kd.R_new' (Kd.R_new' (Kd.R_new' (Kd.R_new' (Kd.R_new' (Kd.R_new' (Kd.R_new' ho3 (rt HO_540004)) (rt HO_540007)) (rt HO_540008)) (rt HO_560004)) (rt HO_560007)) (rt HO_560008)) (rt HO_584004)) (rt HO_584007)) (rt HO_584008)) (below_size (bb HB))); have HO643 := dk (Kd.R_lower (Kd.R_new' (Kd.R_new' (Kd.R_new' (Kd.R_new' (Kd.R_new' (Kd.R_new' (Kd.R_new' (Kd.R_new' (Kd.R_new' ho4 (rt HO_540004)) (rt HO_540007)) (rt HO_540008)) (rt HO_560004)) (rt HO_560007)) (rt HO_560008)) (rt HO_584004)) (rt HO_584007)) (rt HO_584008)) (below_size (bb HB))); replace HO_540004 := dk (Kd.R_mono (Kd.R_told (Kd.R_told (Kd.R_told (Kd.R_old (rr HO_540004) hb) (Kd.R_base ho1)) (Kd.R_base ho3)) (Kd.R_base ho4)) (fun _ h_ => h_.1)); replace HO_540007 := dk (Kd.R_mono (Kd.R_told (Kd.R_told (Kd.R_told (Kd.R_old (rr HO_540007) hb) (Kd.R_base ho1)) (Kd.R_base ho3)) (Kd.R_base ho4)) (fun _ h_ => h_.1)); replace HO_540008 := dk (Kd.R_mono (Kd.R_told (Kd.R_told (Kd.R_told (Kd.R_old (rr HO_540008) hb) (Kd.R_base ho1)) (Kd.R_base ho3)) (Kd.R_base ho4)) (fun _ h_ => h_.1)); replace HO_560004 := dk (Kd.R_mono (Kd.R_told (Kd.R_told (Kd.R_told (Kd.R_old (rr HO_560004) hb) (Kd.R_base ho1)) (Kd.R_base ho3)) (Kd.R_base ho4)) (fun _ h_ => h_.1)); replace HO_560007 := dk (Kd.R_mono (Kd.R_told (Kd.R_told (Kd.R_told (Kd.R_old (rr HO_560007) hb) (Kd.R_base ho1)) (Kd.R_base ho3)) (Kd.R_base ho4)) (fun _ h_ => h_.1)); replace HO_560008 := dk (Kd.R_mono (Kd.R_told (Kd.R_told (Kd.R_told (Kd.R_old (rr HO_560008) hb) (Kd.R_base ho1)) (Kd.R_base ho3)) (Kd.R_base ho4)) (fun _ h_ => h_.1)); replace HO_584004 := dk (Kd.R_mono (Kd.R_told (Kd.R_told (Kd.R_told (Kd.R_old (rr HO_584004) hb) (Kd.R_base ho1)) (Kd.R_base ho3)) (Kd.R_base ho4)) (fun _ h_ => h_.1)); replace HO_584007 := dk (Kd.R_mono (Kd.R_told (Kd.R_told (Kd.R_told (Kd.R_old (rr HO_584007) hb) (Kd.R_base ho1)) (Kd.R_base ho3)) (Kd.R_base ho4)) (fun _ h_ => h_.1)); replace HO_584008 := dk (Kd.R_mono (Kd.R_told (Kd.R_told (Kd.R_told (Kd.R_old (rr HO_584008) hb) (Kd.R_base ho1)) (Kd.R_base ho3)) (Kd.R_base ho4)) (fun _ h_ => h_.1)); replace BK494 := kb BK494 hb; replace BK539 := kb BK539 hb; replace BK559 := kb BK559 hb; replace BK583 := kb BK583 hb; replace HB := hs_ HB hb; (try clear hb hb2 hk hi ho0 ho1 ho2 ho3 ho4)) | ((with_reducible refine gate_callee (f := 14) rfl ?_); refine gl (some 98) Try.func14 #[.slice A1 l1.length c1] ?_; (with_reducible refine (laws_toProtestS.calls kj101 _ _ l1 t644 _ ?side1 ?side2 A142.out).mono ?_); (case side1 => exact cc HR1 HB); (case side2 => exact HC1.out); rintro e w150 ⟨v645, rfl, ho0, hb⟩; refine ⟨_, rfl, ?_⟩; replace HO_540000 := kr HO_540000 hb; replace HO_540004 := kr HO_540004 hb; replace HO_540006 := kr HO_540006 hb; replace HO_540007 := kr HO_540007 hb; replace HO_540008 := kr HO_540008 hb; replace HO_560000 := kr HO_560000 hb; replace HO_560004 := kr HO_560004 hb; replace HO_560006 := kr HO_560006 hb; replace HO_560007 := kr HO_560007 hb; replace HO_560008 := kr HO_560008 hb; replace HO_584000 := kr HO_584000 hb; replace HO_584004 := kr HO_584004 hb; replace HO_584006 := kr HO_584006 hb; replace HO_584007 := kr HO_584007 hb; replace HO_584008 := kr HO_584008 hb; replace HO627 := kr HO627 hb; replace HO633 := kr HO633 hb; replace HO637 := kr HO637 hb; replace HO640 := kr HO640 hb; replace HO643 := kr HO643 hb; have HO646 := kl ho0 HB; replace BK494 := kb BK494 hb; replace BK539 := kb BK539 hb; replace BK559 := kb BK559 hb; replace BK583 := kb BK583 hb; replace HB := hs_ HB hb; (try clear hb hb2 hk hi ho0); obtain ⟨Ao151, co151, eo151⟩ := Kd.R_slice HO627.out; subst eo151; obtain ⟨Ao152, co152, eo152⟩ := Kd.R_slice HO633.out; subst eo152; obtain ⟨Ao153, co153, eo153⟩ := Kd.R_slice HO637.out; subst eo153; obtain ⟨Ao154, co154, eo154⟩ := Kd.R_slice HO640.out; subst eo154; obtain ⟨Ao155, co155, eo155⟩ := Kd.R_slice HO643.out; subst eo155; obtain ⟨Ao156, co156, eo156⟩ := Kd.R_slice HO646.out; subst eo156) | ((with_reducible refine gate_callee (f := 15) rfl ?_); refine gl (some 99) Try.func15 #[.agg #[.slice Ao151 t625.length co151, .int .i64 t628, .int .i64 t629, .int .i64 t630, .slice Ao152 t631.length co152, .bool t634, .slice Ao153 t635.length co153, .slice Ao154 t638.length co154, .slice Ao155 t641.length co155], .slice Ao156 t644.length co156] ?_; (with_reducible refine (impl_Decide.calls kj101 _ _ t625 t628 t629 t630 _ _ t631 t634 _ _ t635 _ _ t638 _ _ t641 _ _ t644 t647 t650 t651 t652 t653 t656 t657 t660 t663 t666 _ ?side1 ?side2 ?side3 ?side4 ?side5 ?side6 ?side7 ?side8 ?side9 ?side10 ?side11 ?side12 A143.out).mono ?_); (case side1 => exact cr HO627); (case side2 => exact cl HO627); (case side3 => exact cr HO633); (case side4 => exact cl HO633); (case side5 => exact cr HO637); (case side6 => exact cl HO637); (case side7 => exact cr HO640); (case side8 => exact cl HO640); (case side9 => exact cr HO643); (case side10 => exact cl HO643); (case side11 => exact cr HO646); (case side12 => exact cl HO646); rintro e w157 ⟨v648, v654, v658, v661, v664, rfl, ho0, ho1, ho2, ho3, ho4, hb⟩; refine ⟨_, rfl, ?_⟩; replace HO646 := kr HO646 hb; have HO649 := dk (Kd.R_lower (Kd.R_new' (Kd.R_new' (Kd.R_new' (Kd.R_new' ho0 (rt HO_540000)) (rt HO_560000)) (rt HO_584000)) (rt HO627)) (below_size (bb HB))); replace HO_540000 := ke HO_540000 ho0 hb; replace HO_560000 := ke HO_560000 ho0 hb; replace HO_584000 := ke HO_584000 ho0 hb; replace HO627 := ke HO627 ho0 hb; have HO655 := dk (Kd.R_lower (Kd.R_new' (Kd.R_new' (Kd.R_new' (Kd.R_new' (Kd.R_new' (Kd.R_new' (Kd.R_new' (Kd.R_new' (Kd.R_new' (Kd.R_new' (Kd.R_new' (Kd.R_new' ho1 (rt HO_540004)) (rt HO_540007)) (rt HO_540008)) (rt HO_560004)) (rt HO_560007)) (rt HO_560008)) (rt HO_584004)) (rt HO_584007)) (rt HO_584008)) (rt HO633)) (rt HO640)) (rt HO643)) (below_size (bb HB))); have HO659 := dk (Kd.R_lower (Kd.R_new' (Kd.R_new' (Kd.R_new' (Kd.R_new' ho2 (rt HO_540006)) (rt HO_560006)) (rt HO_584006)) (rt HO637)) (below_size (bb HB))); replace HO_540006 := ke HO_540006 ho2 hb; replace HO_560006 := ke HO_560006 ho2 hb; replace HO_584006 := ke HO_584006 ho2 hb; replace HO637 := ke HO637 ho2 hb; have HO662 := dk (Kd.R_lower (Kd.R_new' (Kd.R_new' (Kd.R_new' (Kd.R_new' (Kd.R_new' (Kd.R_new' (Kd.R_new' (Kd.R_new' (Kd.R_new' (Kd.R_new' (Kd.R_new' (Kd.R_new' ho3 (rt HO_540004)) (rt HO_540007)) (rt HO_540008)) (rt HO_560004)) (rt HO_560007)) (rt HO_560008)) (rt HO_584004)) (rt HO_584007)) (rt HO_584008)) (rt HO633)) (rt HO640)) (rt HO643)) (below_size (bb HB))); have HO665 := dk (Kd.R_lower (Kd.R_new' (Kd.R_new' (Kd.R_new' (Kd.R_new' (Kd.R_new' (Kd.R_new' (Kd.R_new' (Kd.R_new' (Kd.R_new' (Kd.R_new' (Kd.R_new' (Kd.R_new' ho4 (rt HO_540004)) (rt HO_540007)) (rt HO_540008)) (rt HO_560004)) (rt HO_560007)) (rt HO_560008)) (rt HO_584004)) (rt HO_584007)) (rt HO_584008)) (rt HO633)) (rt HO640)) (rt HO643)) (below_size (bb HB))); replace HO_540004 := dk (Kd.R_mono (Kd.R_told (Kd.R_told (Kd.R_told (Kd.R_old (rr HO_540004) hb) (Kd.R_base ho1)) (Kd.R_base ho3)) (Kd.R_base ho4)) (fun _ h_ => h_.1)); replace HO_540007 := dk (Kd.R_mono (Kd.R_told (Kd.R_told (Kd.R_told (Kd.R_old (rr HO_540007) hb) (Kd.R_base ho1)) (Kd.R_base ho3)) (Kd.R_base ho4)) (fun _ h_ => h_.1)); replace HO_540008 := dk (Kd.R_mono (Kd.R_told (Kd.R_told (Kd.R_told (Kd.R_old (rr HO_540008) hb) (Kd.R_base ho1)) (Kd.R_base ho3)) (Kd.R_base ho4)) (fun _ h_ => h_.1)); replace HO_560004 := dk (Kd.R_mono (Kd.R_told (Kd.R_told (Kd.R_told (Kd.R_old (rr HO_560004) hb) (Kd.R_base ho1)) (Kd.R_base ho3)) (Kd.R_base ho4)) (fun _ h_ => h_.1)); replace HO_560007 := dk (Kd.R_mono (Kd.R_told (Kd.R_told (Kd.R_told (Kd.R_old (rr HO_560007) hb) (Kd.R_base ho1)) (Kd.R_base ho3)) (Kd.R_base ho4)) (fun _ h_ => h_.1)); replace HO_560008 := dk (Kd.R_mono (Kd.R_told (Kd.R_told (Kd.R_told (Kd.R_old (rr HO_560008) hb) (Kd.R_base ho1)) (Kd.R_base ho3)) (Kd.R_base ho4)) (fun _ h_ => h_.1)); replace HO_584004 := dk (Kd.R_mono (Kd.R_told (Kd.R_told (Kd.R_told (Kd.R_old (rr HO_584004) hb) (Kd.R_base ho1)) (Kd.R_base ho3)) (Kd.R_base ho4)) (fun _ h_ => h_.1)); replace HO_584007 := dk (Kd.R_mono (Kd.R_told (Kd.R_told (Kd.R_told (Kd.R_old (rr HO_584007) hb) (Kd.R_base ho1)) (Kd.R_base ho3)) (Kd.R_base ho4)) (fun _ h_ => h_.1)); replace HO_584008 := dk (Kd.R_mono (Kd.R_told (Kd.R_told (Kd.R_told (Kd.R_old (rr HO_584008) hb) (Kd.R_base ho1)) (Kd.R_base ho3)) (Kd.R_base ho4)) (fun _ h_ => h_.1)); replace HO633 := dk (Kd.R_mono (Kd.R_told (Kd.R_told (Kd.R_told (Kd.R_old (rr HO633) hb) (Kd.R_base ho1)) (Kd.R_base ho3)) (Kd.R_base ho4)) (fun _ h_ => h_.1)); replace HO640 := dk (Kd.R_mono (Kd.R_told (Kd.R_told (Kd.R_told (Kd.R_old (rr HO640) hb) (Kd.R_base ho1)) (Kd.R_base ho3)) (Kd.R_base ho4)) (fun _ h_ => h_.1)); replace HO643 := dk (Kd.R_mono (Kd.R_told (Kd.R_told (Kd.R_told (Kd.R_old (rr HO643) hb) (Kd.R_base ho1)) (Kd.R_base ho3)) (Kd.R_base ho4)) (fun _ h_ => h_.1)); replace BK494 := kb BK494 hb; replace BK539 := kb BK539 hb; replace BK559 := kb BK559 hb; replace BK583 := kb BK583 hb; replace HB := hs_ HB hb; (try clear hb hb2 hk hi ho0 ho1 ho2 ho3 ho4)) | ((with_reducible refine gate_dst (N := 15) rfl ?_); refine bx (N := 15) (cs := #[.slice none 0 0, .int .i64 0, .int .i64 0, .int .i64 0, .slice none 0 0, .bool false, .slice none 0 0, .slice none 0 0, .slice none 0 0]) (t := 36) ?_; intro gb667 hg w158 hbox hb; replace HO_540000 := kr HO_540000 hb; replace HO_540004 := kr HO_540004 hb; replace HO_540006 := kr HO_540006 hb; replace HO_540007 := kr HO_540007 hb; replace HO_540008 := kr HO_540008 hb; replace HO_560000 := kr HO_560000 hb; replace HO_560004 := kr HO_560004 hb; replace HO_560006 := kr HO_560006 hb; replace HO_560007 := kr HO_560007 hb; replace HO_560008 := kr HO_560008 hb; replace HO_584000 := kr HO_584000 hb; replace HO_584004 := kr HO_584004 hb; replace HO_584006 := kr HO_584006 hb; replace HO_584007 := kr HO_584007 hb; replace HO_584008 := kr HO_584008 hb; replace HO627 := kr HO627 hb; replace HO633 := kr HO633 hb; replace HO637 := kr HO637 hb; replace HO640 := kr HO640 hb; replace HO643 := kr HO643 hb; replace HO646 := kr HO646 hb; replace HO649 := kr HO649 hb; replace HO655 := kr HO655 hb; replace HO659 := kr HO659 hb; replace HO662 := kr HO662 hb; replace HO665 := kr HO665 hb; have BK667 := dk (hbox); have GW667 := gs hg HB; have GE667 := gs hg HB; replace HB := hs_ HB hb; have NB494_667 := gn hg BK494; have NB667_494 := gm hg BK494; replace BK494 := kb BK494 hb; have NB539_667 := gn hg BK539; have NB667_539 := gm hg BK539; replace BK539 := kb BK539 hb; have NB559_667 := gn hg BK559; have NB667_559 := gm hg BK559; replace BK559 := kb BK559 hb; have NB583_667 := gn hg BK583; have NB667_583 := gm hg BK583; replace BK583 := kb BK583 hb; clear hb hbox hg; obtain ⟨Ao159, co159, eo159⟩ := Kd.R_slice HO649.out; subst eo159; have hnb160 := NB667_494.out; have hnc160 := NB494_667.out; have hnb161 := NB667_539.out; have hnc161 := NB539_667.out; have hnb162 := NB667_559.out; have hnc162 := NB559_667.out; have hnb163 := NB667_583.out; have hnc163 := NB583_667.out; have ⟨z164_0, z164_1, z164_2, z164_3, z164_4, z164_5, z164_6, z164_7, z164_8, v164_0, v164_1, v164_2, v164_3, v164_4, v164_5, v164_6, v164_7, v164_8⟩ := rz9 BK667; obtain ⟨Ao165, co165, eo165⟩ := Kd.R_slice HO655.out; subst eo165; obtain ⟨Ao166, co166, eo166⟩ := Kd.R_slice HO659.out; subst eo166; obtain ⟨Ao167, co167, eo167⟩ := Kd.R_slice HO662.out; subst eo167; obtain ⟨Ao168, co168, eo168⟩ := Kd.R_slice HO665.out; subst eo168))
             (try simp only [Act.put, List.setIfInBounds_toArray, List.set_cons_zero, List.set_cons_succ])
             go_cut [110] (fun v110 wc => ∃ (kq : Nat) (x110_143 : Bool), v110 = .bool x110_143 ∧ Aside0 (laws_FnExactDecide.j2 kq t618 x110_143 t619 t566 t567 t568 t620 t572 t621 t622 t623 = some r) ∧ Aside0 (kq ≤ kj101) ∧ Aside0 (Kd.R k139 139 wc w.heap.size (fun k_ => nb k_ Ao40 t610.length co40 ∧ nb k_ Ao53 t563.length co53 ∧ nb k_ Ao159 t647.length co159) (.slice Ao30 t519.length co30) t519) ∧ Aside0 (Kd.R (Kd.int .i64) 3 wc w.heap.size (fun k_ => nb k_ Ao35 t532.length co35 ∧ nb k_ Ao36 t535.length co36 ∧ nb k_ Ao44 t611.length co44 ∧ nb k_ Ao46 t613.length co46 ∧ nb k_ Ao47 t614.length co47 ∧ nb k_ Ao58 t569.length co58 ∧ nb k_ Ao60 t576.length co60 ∧ nb k_ Ao61 t579.length co61 ∧ nb k_ Ao165 t653.length co165 ∧ nb k_ Ao167 t660.length co167 ∧ nb k_ Ao168 t663.length co168) (.slice Ao33 t525.length co33) t525) ∧ Aside0 (Kd.R k95 95 wc w.heap.size (fun k_ => nb k_ Ao45 t612.length co45 ∧ nb k_ Ao59 t573.length co59 ∧ nb k_ Ao166 t657.length co166) (.slice Ao34 t529.length co34) t529) ∧ Aside0 (Kd.R (Kd.int .i64) 3 wc w.heap.size (fun k_ => nb k_ Ao33 t525.length co33 ∧ nb k_ Ao36 t535.length co36 ∧ nb k_ Ao44 t611.length co44 ∧ nb k_ Ao46 t613.length co46 ∧ nb k_ Ao47 t614.length co47 ∧ nb k_ Ao58 t569.length co58 ∧ nb k_ Ao60 t576.length co60 ∧ nb k_ Ao61 t579.length co61 ∧ nb k_ Ao165 t653.length co165 ∧ nb k_ Ao167 t660.length co167 ∧ nb k_ Ao168 t663.length co168) (.slice Ao35 t532.length co35) t532) ∧ Aside0 (Kd.R (Kd.int .i64) 3 wc w.heap.size (fun k_ => nb k_ Ao33 t525.length co33 ∧ nb k_ Ao35 t532.length co35 ∧ nb k_ Ao44 t611.length co44 ∧ nb k_ Ao46 t613.length co46 ∧ nb k_ Ao47 t614.length co47 ∧ nb k_ Ao58 t569.length co58 ∧ nb k_ Ao60 t576.length co60 ∧ nb k_ Ao61 t579.length co61 ∧ nb k_ Ao165 t653.length co165 ∧ nb k_ Ao167 t660.length co167 ∧ nb k_ Ao168 t663.length co168) (.slice Ao36 t535.length co36) t535) ∧ Aside0 (Kd.R k139 139 wc w.heap.size (fun k_ => nb k_ Ao30 t519.length co30 ∧ nb k_ Ao53 t563.length co53 ∧ nb k_ Ao159 t647.length co159) (.slice Ao40 t610.length co40) t610) ∧ Aside0 (Kd.R (Kd.int .i64) 3 wc w.heap.size (fun k_ => nb k_ Ao33 t525.length co33 ∧ nb k_ Ao35 t532.length co35 ∧ nb k_ Ao36 t535.length co36 ∧ nb k_ Ao46 t613.length co46 ∧ nb k_ Ao47 t614.length co47 ∧ nb k_ Ao58 t569.length co58 ∧ nb k_ Ao60 t576.length co60 ∧ nb k_ Ao61 t579.length co61 ∧ nb k_ Ao165 t653.length co165 ∧ nb k_ Ao167 t660.length co167 ∧ nb k_ Ao168 t663.length co168) (.slice Ao44 t611.length co44) t611) ∧ Aside0 (Kd.R k95 95 wc w.heap.size (fun k_ => nb k_ Ao34 t529.length co34 ∧ nb k_ Ao59 t573.length co59 ∧ nb k_ Ao166 t657.length co166) (.slice Ao45 t612.length co45) t612) ∧ Aside0 (Kd.R (Kd.int .i64) 3 wc w.heap.size (fun k_ => nb k_ Ao33 t525.length co33 ∧ nb k_ Ao35 t532.length co35 ∧ nb k_ Ao36 t535.length co36 ∧ nb k_ Ao44 t611.length co44 ∧ nb k_ Ao47 t614.length co47 ∧ nb k_ Ao58 t569.length co58 ∧ nb k_ Ao60 t576.length co60 ∧ nb k_ Ao61 t579.length co61 ∧ nb k_ Ao165 t653.length co165 ∧ nb k_ Ao167 t660.length co167 ∧ nb k_ Ao168 t663.length co168) (.slice Ao46 t613.length co46) t613) ∧ Aside0 (Kd.R (Kd.int .i64) 3 wc w.heap.size (fun k_ => nb k_ Ao33 t525.length co33 ∧ nb k_ Ao35 t532.length co35 ∧ nb k_ Ao36 t535.length co36 ∧ nb k_ Ao44 t611.length co44 ∧ nb k_ Ao46 t613.length co46 ∧ nb k_ Ao58 t569.length co58 ∧ nb k_ Ao60 t576.length co60 ∧ nb k_ Ao61 t579.length co61 ∧ nb k_ Ao165 t653.length co165 ∧ nb k_ Ao167 t660.length co167 ∧ nb k_ Ao168 t663.length co168) (.slice Ao47 t614.length co47) t614) ∧ Aside0 (Kd.R k139 139 wc w.heap.size (fun k_ => nb k_ Ao30 t519.length co30 ∧ nb k_ Ao40 t610.length co40 ∧ nb k_ Ao159 t647.length co159) (.slice Ao53 t563.length co53) t619) ∧ Aside0 (Kd.R (Kd.int .i64) 3 wc w.heap.size (fun k_ => nb k_ Ao33 t525.length co33 ∧ nb k_ Ao35 t532.length co35 ∧ nb k_ Ao36 t535.length co36 ∧ nb k_ Ao44 t611.length co44 ∧ nb k_ Ao46 t613.length co46 ∧ nb k_ Ao47 t614.length co47 ∧ nb k_ Ao60 t576.length co60 ∧ nb k_ Ao61 t579.length co61 ∧ nb k_ Ao165 t653.length co165 ∧ nb k_ Ao167 t660.length co167 ∧ nb k_ Ao168 t663.length co168) (.slice Ao58 t569.length co58) t620) ∧ Aside0 (Kd.R k95 95 wc w.heap.size (fun k_ => nb k_ Ao34 t529.length co34 ∧ nb k_ Ao45 t612.length co45 ∧ nb k_ Ao166 t657.length co166) (.slice Ao59 t573.length co59) t621) ∧ Aside0 (Kd.R (Kd.int .i64) 3 wc w.heap.size (fun k_ => nb k_ Ao33 t525.length co33 ∧ nb k_ Ao35 t532.length co35 ∧ nb k_ Ao36 t535.length co36 ∧ nb k_ Ao44 t611.length co44 ∧ nb k_ Ao46 t613.length co46 ∧ nb k_ Ao47 t614.length co47 ∧ nb k_ Ao58 t569.length co58 ∧ nb k_ Ao61 t579.length co61 ∧ nb k_ Ao165 t653.length co165 ∧ nb k_ Ao167 t660.length co167 ∧ nb k_ Ao168 t663.length co168) (.slice Ao60 t576.length co60) t622) ∧ Aside0 (Kd.R (Kd.int .i64) 3 wc w.heap.size (fun k_ => nb k_ Ao33 t525.length co33 ∧ nb k_ Ao35 t532.length co35 ∧ nb k_ Ao36 t535.length co36 ∧ nb k_ Ao44 t611.length co44 ∧ nb k_ Ao46 t613.length co46 ∧ nb k_ Ao47 t614.length co47 ∧ nb k_ Ao58 t569.length co58 ∧ nb k_ Ao60 t576.length co60 ∧ nb k_ Ao165 t653.length co165 ∧ nb k_ Ao167 t660.length co167 ∧ nb k_ Ao168 t663.length co168) (.slice Ao61 t579.length co61) t623) ∧ Aside0 (Kd.R k139 139 wc w.heap.size (fun k_ => nb k_ Ao30 t519.length co30 ∧ nb k_ Ao40 t610.length co40 ∧ nb k_ Ao53 t563.length co53) (.slice Ao159 t647.length co159) t647) ∧ Aside0 (Kd.R (Kd.int .i64) 3 wc w.heap.size (fun k_ => nb k_ Ao33 t525.length co33 ∧ nb k_ Ao35 t532.length co35 ∧ nb k_ Ao36 t535.length co36 ∧ nb k_ Ao44 t611.length co44 ∧ nb k_ Ao46 t613.length co46 ∧ nb k_ Ao47 t614.length co47 ∧ nb k_ Ao58 t569.length co58 ∧ nb k_ Ao60 t576.length co60 ∧ nb k_ Ao61 t579.length co61 ∧ nb k_ Ao167 t660.length co167 ∧ nb k_ Ao168 t663.length co168) (.slice Ao165 t653.length co165) t653) ∧ Aside0 (Kd.R k95 95 wc w.heap.size (fun k_ => nb k_ Ao34 t529.length co34 ∧ nb k_ Ao45 t612.length co45 ∧ nb k_ Ao59 t573.length co59) (.slice Ao166 t657.length co166) t657) ∧ Aside0 (Kd.R (Kd.int .i64) 3 wc w.heap.size (fun k_ => nb k_ Ao33 t525.length co33 ∧ nb k_ Ao35 t532.length co35 ∧ nb k_ Ao36 t535.length co36 ∧ nb k_ Ao44 t611.length co44 ∧ nb k_ Ao46 t613.length co46 ∧ nb k_ Ao47 t614.length co47 ∧ nb k_ Ao58 t569.length co58 ∧ nb k_ Ao60 t576.length co60 ∧ nb k_ Ao61 t579.length co61 ∧ nb k_ Ao165 t653.length co165 ∧ nb k_ Ao168 t663.length co168) (.slice Ao167 t660.length co167) t660) ∧ Aside0 (Kd.R (Kd.int .i64) 3 wc w.heap.size (fun k_ => nb k_ Ao33 t525.length co33 ∧ nb k_ Ao35 t532.length co35 ∧ nb k_ Ao36 t535.length co36 ∧ nb k_ Ao44 t611.length co44 ∧ nb k_ Ao46 t613.length co46 ∧ nb k_ Ao47 t614.length co47 ∧ nb k_ Ao58 t569.length co58 ∧ nb k_ Ao60 t576.length co60 ∧ nb k_ Ao61 t579.length co61 ∧ nb k_ Ao165 t653.length co165 ∧ nb k_ Ao167 t660.length co167) (.slice Ao168 t663.length co168) t663) ∧ Aside0 (wc.heap[gb494]? = some (.cells #[(.slice A0_0 l0_0.length c0_0), .int .i64 a0_1, .int .i64 a0_2, .int .i64 a0_3, (.slice A0_4 l0_4.length c0_4), .bool a0_5, (.slice A0_6 l0_6.length c0_6), (.slice A0_7 l0_7.length c0_7), (.slice A0_8 l0_8.length c0_8)] 28 (0, 0))) ∧ Aside0 (wc.heap[gb539]? = some (.cells #[(.slice Ao30 t519.length co30), .int .i64 t522, .int .i64 t523, .int .i64 t524, (.slice Ao33 t525.length co33), .bool t528, (.slice Ao34 t529.length co34), (.slice Ao35 t532.length co35), (.slice Ao36 t535.length co36)] 36 (0, 0))) ∧ Aside0 (wc.heap[gb559]? = some (.cells #[(.slice Ao40 t610.length co40), .int .i64 t543, .int .i64 t544, .int .i64 t545, (.slice Ao44 t611.length co44), .bool t549, (.slice Ao45 t612.length co45), (.slice Ao46 t613.length co46), (.slice Ao47 t614.length co47)] 36 (0, 0))) ∧ Aside0 (wc.heap[gb583]? = some (.cells #[(.slice Ao53 t563.length co53), .int .i64 t566, .int .i64 t567, .int .i64 t568, (.slice Ao58 t569.length co58), .bool t572, (.slice Ao59 t573.length co59), (.slice Ao60 t576.length co60), (.slice Ao61 t579.length co61)] 36 (0, 0))) ∧ Aside0 (wc.heap[gb667]? = some (.cells #[(.slice Ao159 t647.length co159), .int .i64 t650, .int .i64 t651, .int .i64 t652, (.slice Ao165 t653.length co165), .bool t656, (.slice Ao166 t657.length co166), (.slice Ao167 t660.length co167), (.slice Ao168 t663.length co168)] 36 (0, 0))) ∧ Aside0 (Below w.heap.size w wc))
             case first =>
              have H := HC144.out
              clear HC144
              replace H := Option.bind_eq_some_iff.mp H
              obtain ⟨t668, A1690, H⟩ := H
              try dsimp only at H
              have A169 := dk A1690
              clear A1690
              by_cases c170 : t668 = true
              ·subst c170
               rw [if_pos rfl] at H
               have H' := dk H
               clear H
               have hnb171 := NB667_494.out
               have hnc171 := NB494_667.out
               have hnb172 := NB667_539.out
               have hnc172 := NB539_667.out
               have hnb173 := NB667_559.out
               have hnc173 := NB559_667.out
               have hnb174 := NB667_583.out
               have hnc174 := NB583_667.out
               have ⟨z175_0, z175_1, z175_2, z175_3, z175_4, z175_5, z175_6, z175_7, z175_8, v175_0, v175_1, v175_2, v175_3, v175_4, v175_5, v175_6, v175_7, v175_8⟩ := rz9 BK667
               have hnb176 := NB539_494.out
               have hnc176 := NB494_539.out
               have hnb177 := NB539_559.out
               have hnc177 := NB559_539.out
               have hnb178 := NB539_583.out
               have hnc178 := NB583_539.out
               have ⟨z179_0, z179_1, z179_2, z179_3, z179_4, z179_5, z179_6, z179_7, z179_8, v179_0, v179_1, v179_2, v179_3, v179_4, v179_5, v179_6, v179_7, v179_8⟩ := rz9 BK539
               go_wp2_with (first | ((with_reducible refine gate_callee (f := 16) rfl ?_); refine gl (some 104) Try.func16 #[.agg #[.slice Ao159 t647.length co159, .int .i64 t650, .int .i64 t651, .int .i64 t652, .slice Ao165 t653.length co165, .bool t656, .slice Ao166 t657.length co166, .slice Ao167 t660.length co167, .slice Ao168 t663.length co168], .agg #[.slice Ao30 t519.length co30, .int .i64 t522, .int .i64 t523, .int .i64 t524, .slice Ao33 t525.length co33, .bool t528, .slice Ao34 t529.length co34, .slice Ao35 t532.length co35, .slice Ao36 t535.length co36]] ?_; (with_reducible refine (laws_eqBook.calls kj101 _ _ t647 t650 t651 t652 _ _ t653 t656 _ _ t657 _ _ t660 _ _ t663 _ _ t519 t522 t523 t524 _ _ t525 t528 _ _ t529 _ _ t532 _ _ t535 true _ ?side1 ?side2 ?side3 ?side4 ?side5 ?side6 ?side7 ?side8 ?side9 ?side10 ?side11 ?side12 ?side13 ?side14 ?side15 ?side16 ?side17 ?side18 ?side19 ?side20 A169.out).mono ?_); (case side1 => exact cf HO649 BK667); (case side2 => exact cl HO649); (case side3 => exact cf HO655 BK667); (case side4 => exact cl HO655); (case side5 => exact cf HO659 BK667); (case side6 => exact cl HO659); (case side7 => exact cf HO662 BK667); (case side8 => exact cl HO662); (case side9 => exact cf HO665 BK667); (case side10 => exact cl HO665); (case side11 => exact cf HO_540000 BK667); (case side12 => exact cl HO_540000); (case side13 => exact cf HO_540004 BK667); (case side14 => exact cl HO_540004); (case side15 => exact cf HO_540006 BK667); (case side16 => exact cl HO_540006); (case side17 => exact cf HO_540007 BK667); (case side18 => exact cl HO_540007); (case side19 => exact cf HO_540008 BK667); (case side20 => exact cl HO_540008); rintro e w180 ⟨rfl, hb⟩; refine ⟨_, rfl, ?_⟩; replace HO_540000 := kf HO_540000 BK667 hb; replace HO_540004 := kf HO_540004 BK667 hb; replace HO_540006 := kf HO_540006 BK667 hb; replace HO_540007 := kf HO_540007 BK667 hb; replace HO_540008 := kf HO_540008 BK667 hb; replace HO_560000 := kf HO_560000 BK667 hb; replace HO_560004 := kf HO_560004 BK667 hb; replace HO_560006 := kf HO_560006 BK667 hb; replace HO_560007 := kf HO_560007 BK667 hb; replace HO_560008 := kf HO_560008 BK667 hb; replace HO_584000 := kf HO_584000 BK667 hb; replace HO_584004 := kf HO_584004 BK667 hb; replace HO_584006 := kf HO_584006 BK667 hb; replace HO_584007 := kf HO_584007 BK667 hb; replace HO_584008 := kf HO_584008 BK667 hb; replace HO627 := kf HO627 BK667 hb; replace HO633 := kf HO633 BK667 hb; replace HO637 := kf HO637 BK667 hb; replace HO640 := kf HO640 BK667 hb; replace HO643 := kf HO643 BK667 hb; replace HO646 := kf HO646 BK667 hb; replace HO649 := kf HO649 BK667 hb; replace HO655 := kf HO655 BK667 hb; replace HO659 := kf HO659 BK667 hb; replace HO662 := kf HO662 BK667 hb; replace HO665 := kf HO665 BK667 hb; replace BK494 := dk (blk_below (bf NB494_667.out BK494) hb); replace BK539 := dk (blk_below (bf NB539_667.out BK539) hb); replace BK559 := dk (blk_below (bf NB559_667.out BK559) hb); replace BK583 := dk (blk_below (bf NB583_667.out BK583) hb); replace BK667 := dk (blk_below (g := gb667) (o := .cells #[.slice Ao159 t647.length co159, .int .i64 t650, .int .i64 t651, .int .i64 t652, .slice Ao165 t653.length co165, .bool t656, .slice Ao166 t657.length co166, .slice Ao167 t660.length co167, .slice Ao168 t663.length co168] 36 (0, 0)) (bp BK667) hb); replace HB := hs_ HB hb; (try clear hb hb2 hk hi)))
               go_meet
               case rel => exact ⟨_, ((t666 != t538)), e2_, H', ⟨by have := HJ17.out; have := HJ101.out; first | omega | exact Nat.le_refl _⟩, ⟨by (try simp only [hl560000_101, hl560004_101, hl560006_101, hl560007_101, hl560008_101]); exact rp HO_540000⟩, ⟨by (try simp only [hl560000_101, hl560004_101, hl560006_101, hl560007_101, hl560008_101]); exact rp HO_540004⟩, ⟨by (try simp only [hl560000_101, hl560004_101, hl560006_101, hl560007_101, hl560008_101]); exact rp HO_540006⟩, ⟨by (try simp only [hl560000_101, hl560004_101, hl560006_101, hl560007_101, hl560008_101]); exact rp HO_540007⟩, ⟨by (try simp only [hl560000_101, hl560004_101, hl560006_101, hl560007_101, hl560008_101]); exact rp HO_540008⟩, ⟨by (try simp only [hl560000_101, hl560004_101, hl560006_101, hl560007_101, hl560008_101]); exact rp HO_560000⟩, ⟨by (try simp only [hl560000_101, hl560004_101, hl560006_101, hl560007_101, hl560008_101]); exact rp HO_560004⟩, ⟨by (try simp only [hl560000_101, hl560004_101, hl560006_101, hl560007_101, hl560008_101]); exact rp HO_560006⟩, ⟨by (try simp only [hl560000_101, hl560004_101, hl560006_101, hl560007_101, hl560008_101]); exact rp HO_560007⟩, ⟨by (try simp only [hl560000_101, hl560004_101, hl560006_101, hl560007_101, hl560008_101]); exact rp HO_560008⟩, ⟨by (try simp only [hl560000_101, hl560004_101, hl560006_101, hl560007_101, hl560008_101]); exact rp HO_584000⟩, ⟨by (try simp only [hl560000_101, hl560004_101, hl560006_101, hl560007_101, hl560008_101]); exact rp HO_584004⟩, ⟨by (try simp only [hl560000_101, hl560004_101, hl560006_101, hl560007_101, hl560008_101]); exact rp HO_584006⟩, ⟨by (try simp only [hl560000_101, hl560004_101, hl560006_101, hl560007_101, hl560008_101]); exact rp HO_584007⟩, ⟨by (try simp only [hl560000_101, hl560004_101, hl560006_101, hl560007_101, hl560008_101]); exact rp HO_584008⟩, ⟨by (try simp only [hl560000_101, hl560004_101, hl560006_101, hl560007_101, hl560008_101]); exact rp HO649⟩, ⟨by (try simp only [hl560000_101, hl560004_101, hl560006_101, hl560007_101, hl560008_101]); exact rp HO655⟩, ⟨by (try simp only [hl560000_101, hl560004_101, hl560006_101, hl560007_101, hl560008_101]); exact rp HO659⟩, ⟨by (try simp only [hl560000_101, hl560004_101, hl560006_101, hl560007_101, hl560008_101]); exact rp HO662⟩, ⟨by (try simp only [hl560000_101, hl560004_101, hl560006_101, hl560007_101, hl560008_101]); exact rp HO665⟩, ⟨by (try simp only [hl560000_101]); (try simp only [hl560004_101]); (try simp only [hl560006_101]); (try simp only [hl560007_101]); (try simp only [hl560008_101]); (with_reducible repeat (first | refine blk_drewN ?_ _ | refine blk_drew ?_ | refine blk_alloc ?_ _)); exact BK494.out⟩, ⟨by (try simp only [hl560000_101]); (try simp only [hl560004_101]); (try simp only [hl560006_101]); (try simp only [hl560007_101]); (try simp only [hl560008_101]); (with_reducible repeat (first | refine blk_drewN ?_ _ | refine blk_drew ?_ | refine blk_alloc ?_ _)); exact BK539.out⟩, ⟨by (try simp only [hl560000_101]); (try simp only [hl560004_101]); (try simp only [hl560006_101]); (try simp only [hl560007_101]); (try simp only [hl560008_101]); (with_reducible repeat (first | refine blk_drewN ?_ _ | refine blk_drew ?_ | refine blk_alloc ?_ _)); exact BK559.out⟩, ⟨by (try simp only [hl560000_101]); (try simp only [hl560004_101]); (try simp only [hl560006_101]); (try simp only [hl560007_101]); (try simp only [hl560008_101]); (with_reducible repeat (first | refine blk_drewN ?_ _ | refine blk_drew ?_ | refine blk_alloc ?_ _)); exact BK583.out⟩, ⟨by (try simp only [hl560000_101]); (try simp only [hl560004_101]); (try simp only [hl560006_101]); (try simp only [hl560007_101]); (try simp only [hl560008_101]); (with_reducible repeat (first | refine blk_drewN ?_ _ | refine blk_drew ?_ | refine blk_alloc ?_ _)); exact BK667.out⟩, ⟨bb HB⟩⟩
              ·replace c170 := Bool.eq_false_iff.mpr c170
               subst c170
               rw [if_neg (show ¬ (false = true) by decide)] at H
               have H' := dk H
               clear H
               have hnb181 := NB667_494.out
               have hnc181 := NB494_667.out
               have hnb182 := NB667_539.out
               have hnc182 := NB539_667.out
               have hnb183 := NB667_559.out
               have hnc183 := NB559_667.out
               have hnb184 := NB667_583.out
               have hnc184 := NB583_667.out
               have ⟨z185_0, z185_1, z185_2, z185_3, z185_4, z185_5, z185_6, z185_7, z185_8, v185_0, v185_1, v185_2, v185_3, v185_4, v185_5, v185_6, v185_7, v185_8⟩ := rz9 BK667
               have hnb186 := NB539_494.out
               have hnc186 := NB494_539.out
               have hnb187 := NB539_559.out
               have hnc187 := NB559_539.out
               have hnb188 := NB539_583.out
               have hnc188 := NB583_539.out
               have ⟨z189_0, z189_1, z189_2, z189_3, z189_4, z189_5, z189_6, z189_7, z189_8, v189_0, v189_1, v189_2, v189_3, v189_4, v189_5, v189_6, v189_7, v189_8⟩ := rz9 BK539
               go_wp2_with (first | ((with_reducible refine gate_callee (f := 16) rfl ?_); refine gl (some 104) Try.func16 #[.agg #[.slice Ao159 t647.length co159, .int .i64 t650, .int .i64 t651, .int .i64 t652, .slice Ao165 t653.length co165, .bool t656, .slice Ao166 t657.length co166, .slice Ao167 t660.length co167, .slice Ao168 t663.length co168], .agg #[.slice Ao30 t519.length co30, .int .i64 t522, .int .i64 t523, .int .i64 t524, .slice Ao33 t525.length co33, .bool t528, .slice Ao34 t529.length co34, .slice Ao35 t532.length co35, .slice Ao36 t535.length co36]] ?_; (with_reducible refine (laws_eqBook.calls kj101 _ _ t647 t650 t651 t652 _ _ t653 t656 _ _ t657 _ _ t660 _ _ t663 _ _ t519 t522 t523 t524 _ _ t525 t528 _ _ t529 _ _ t532 _ _ t535 false _ ?side1 ?side2 ?side3 ?side4 ?side5 ?side6 ?side7 ?side8 ?side9 ?side10 ?side11 ?side12 ?side13 ?side14 ?side15 ?side16 ?side17 ?side18 ?side19 ?side20 A169.out).mono ?_); (case side1 => exact cf HO649 BK667); (case side2 => exact cl HO649); (case side3 => exact cf HO655 BK667); (case side4 => exact cl HO655); (case side5 => exact cf HO659 BK667); (case side6 => exact cl HO659); (case side7 => exact cf HO662 BK667); (case side8 => exact cl HO662); (case side9 => exact cf HO665 BK667); (case side10 => exact cl HO665); (case side11 => exact cf HO_540000 BK667); (case side12 => exact cl HO_540000); (case side13 => exact cf HO_540004 BK667); (case side14 => exact cl HO_540004); (case side15 => exact cf HO_540006 BK667); (case side16 => exact cl HO_540006); (case side17 => exact cf HO_540007 BK667); (case side18 => exact cl HO_540007); (case side19 => exact cf HO_540008 BK667); (case side20 => exact cl HO_540008); rintro e w190 ⟨rfl, hb⟩; refine ⟨_, rfl, ?_⟩; replace HO_540000 := kf HO_540000 BK667 hb; replace HO_540004 := kf HO_540004 BK667 hb; replace HO_540006 := kf HO_540006 BK667 hb; replace HO_540007 := kf HO_540007 BK667 hb; replace HO_540008 := kf HO_540008 BK667 hb; replace HO_560000 := kf HO_560000 BK667 hb; replace HO_560004 := kf HO_560004 BK667 hb; replace HO_560006 := kf HO_560006 BK667 hb; replace HO_560007 := kf HO_560007 BK667 hb; replace HO_560008 := kf HO_560008 BK667 hb; replace HO_584000 := kf HO_584000 BK667 hb; replace HO_584004 := kf HO_584004 BK667 hb; replace HO_584006 := kf HO_584006 BK667 hb; replace HO_584007 := kf HO_584007 BK667 hb; replace HO_584008 := kf HO_584008 BK667 hb; replace HO627 := kf HO627 BK667 hb; replace HO633 := kf HO633 BK667 hb; replace HO637 := kf HO637 BK667 hb; replace HO640 := kf HO640 BK667 hb; replace HO643 := kf HO643 BK667 hb; replace HO646 := kf HO646 BK667 hb; replace HO649 := kf HO649 BK667 hb; replace HO655 := kf HO655 BK667 hb; replace HO659 := kf HO659 BK667 hb; replace HO662 := kf HO662 BK667 hb; replace HO665 := kf HO665 BK667 hb; replace BK494 := dk (blk_below (bf NB494_667.out BK494) hb); replace BK539 := dk (blk_below (bf NB539_667.out BK539) hb); replace BK559 := dk (blk_below (bf NB559_667.out BK559) hb); replace BK583 := dk (blk_below (bf NB583_667.out BK583) hb); replace BK667 := dk (blk_below (g := gb667) (o := .cells #[.slice Ao159 t647.length co159, .int .i64 t650, .int .i64 t651, .int .i64 t652, .slice Ao165 t653.length co165, .bool t656, .slice Ao166 t657.length co166, .slice Ao167 t660.length co167, .slice Ao168 t663.length co168] 36 (0, 0)) (bp BK667) hb); replace HB := hs_ HB hb; (try clear hb hb2 hk hi)))
               go_meet
               case rel => exact ⟨_, (true), e2_, H', ⟨by have := HJ17.out; have := HJ101.out; first | omega | exact Nat.le_refl _⟩, ⟨by (try simp only [hl560000_101, hl560004_101, hl560006_101, hl560007_101, hl560008_101]); exact rp HO_540000⟩, ⟨by (try simp only [hl560000_101, hl560004_101, hl560006_101, hl560007_101, hl560008_101]); exact rp HO_540004⟩, ⟨by (try simp only [hl560000_101, hl560004_101, hl560006_101, hl560007_101, hl560008_101]); exact rp HO_540006⟩, ⟨by (try simp only [hl560000_101, hl560004_101, hl560006_101, hl560007_101, hl560008_101]); exact rp HO_540007⟩, ⟨by (try simp only [hl560000_101, hl560004_101, hl560006_101, hl560007_101, hl560008_101]); exact rp HO_540008⟩, ⟨by (try simp only [hl560000_101, hl560004_101, hl560006_101, hl560007_101, hl560008_101]); exact rp HO_560000⟩, ⟨by (try simp only [hl560000_101, hl560004_101, hl560006_101, hl560007_101, hl560008_101]); exact rp HO_560004⟩, ⟨by (try simp only [hl560000_101, hl560004_101, hl560006_101, hl560007_101, hl560008_101]); exact rp HO_560006⟩, ⟨by (try simp only [hl560000_101, hl560004_101, hl560006_101, hl560007_101, hl560008_101]); exact rp HO_560007⟩, ⟨by (try simp only [hl560000_101, hl560004_101, hl560006_101, hl560007_101, hl560008_101]); exact rp HO_560008⟩, ⟨by (try simp only [hl560000_101, hl560004_101, hl560006_101, hl560007_101, hl560008_101]); exact rp HO_584000⟩, ⟨by (try simp only [hl560000_101, hl560004_101, hl560006_101, hl560007_101, hl560008_101]); exact rp HO_584004⟩, ⟨by (try simp only [hl560000_101, hl560004_101, hl560006_101, hl560007_101, hl560008_101]); exact rp HO_584006⟩, ⟨by (try simp only [hl560000_101, hl560004_101, hl560006_101, hl560007_101, hl560008_101]); exact rp HO_584007⟩, ⟨by (try simp only [hl560000_101, hl560004_101, hl560006_101, hl560007_101, hl560008_101]); exact rp HO_584008⟩, ⟨by (try simp only [hl560000_101, hl560004_101, hl560006_101, hl560007_101, hl560008_101]); exact rp HO649⟩, ⟨by (try simp only [hl560000_101, hl560004_101, hl560006_101, hl560007_101, hl560008_101]); exact rp HO655⟩, ⟨by (try simp only [hl560000_101, hl560004_101, hl560006_101, hl560007_101, hl560008_101]); exact rp HO659⟩, ⟨by (try simp only [hl560000_101, hl560004_101, hl560006_101, hl560007_101, hl560008_101]); exact rp HO662⟩, ⟨by (try simp only [hl560000_101, hl560004_101, hl560006_101, hl560007_101, hl560008_101]); exact rp HO665⟩, ⟨by (try simp only [hl560000_101]); (try simp only [hl560004_101]); (try simp only [hl560006_101]); (try simp only [hl560007_101]); (try simp only [hl560008_101]); (with_reducible repeat (first | refine blk_drewN ?_ _ | refine blk_drew ?_ | refine blk_alloc ?_ _)); exact BK494.out⟩, ⟨by (try simp only [hl560000_101]); (try simp only [hl560004_101]); (try simp only [hl560006_101]); (try simp only [hl560007_101]); (try simp only [hl560008_101]); (with_reducible repeat (first | refine blk_drewN ?_ _ | refine blk_drew ?_ | refine blk_alloc ?_ _)); exact BK539.out⟩, ⟨by (try simp only [hl560000_101]); (try simp only [hl560004_101]); (try simp only [hl560006_101]); (try simp only [hl560007_101]); (try simp only [hl560008_101]); (with_reducible repeat (first | refine blk_drewN ?_ _ | refine blk_drew ?_ | refine blk_alloc ?_ _)); exact BK559.out⟩, ⟨by (try simp only [hl560000_101]); (try simp only [hl560004_101]); (try simp only [hl560006_101]); (try simp only [hl560007_101]); (try simp only [hl560008_101]); (with_reducible repeat (first | refine blk_drewN ?_ _ | refine blk_drew ?_ | refine blk_alloc ?_ _)); exact BK583.out⟩, ⟨by (try simp only [hl560000_101]); (try simp only [hl560004_101]); (try simp only [hl560006_101]); (try simp only [hl560007_101]); (try simp only [hl560008_101]); (with_reducible repeat (first | refine blk_drewN ?_ _ | refine blk_drew ?_ | refine blk_alloc ?_ _)); exact BK667.out⟩, ⟨bb HB⟩⟩
             case rest =>
              clear HC144
              (try clear c1)
              (try clear c2)
              (try clear p2)
              (try clear c8)
              (try clear c9)
              (try clear c10)
              (try clear c11)
              (try clear c12)
              (try clear c13)
              (try clear c14)
              (try clear c15)
              (try clear c16)
              (try clear c17)
              (try clear c18)
              (try clear c19)
              (try clear c20)
              (try clear c80)
              (try clear c92)
              (try clear c99)
              (try clear c103)
              (try clear c104)
              (try clear c105)
              (try clear c109)
              (try clear c109b0)
              (try clear c109b1)
              (try clear c111)
              (try clear c112)
              (try clear c113)
              (try clear c114)
              (try clear c116)
              (try clear c117)
              (try clear c120)
              (try clear c121)
              (try clear c122)
              (try clear c124)
              (try clear c125)
              (try clear c128)
              (try clear c132)
              (try clear c133)
              (try clear c134)
              (try clear c139)
              (try clear c139b0)
              (try clear c139b1)
              (try clear c140)
              (try clear c140b0)
              (try clear c140b1)
              (try clear c145)
              (try clear c146)
              (try clear c147)
              (try clear c160)
              (try clear c161)
              (try clear c162)
              (try clear c163)
              (try clear c170)
              (try clear c171)
              (try clear c172)
              (try clear c173)
              (try clear c174)
              (try clear c176)
              (try clear c177)
              (try clear c178)
              (try clear c181)
              (try clear c182)
              (try clear c183)
              (try clear c184)
              (try clear c186)
              (try clear c187)
              (try clear c188)
              (try clear z106_0 z106_1 z106_2 z106_3 z106_4 z106_5 z106_6 z106_7 z106_8)
              (try clear z115_0 z115_1 z115_2 z115_3 z115_4 z115_5 z115_6 z115_7 z115_8)
              (try clear z118_0 z118_1 z118_2 z118_3 z118_4 z118_5 z118_6 z118_7 z118_8)
              (try clear z123_0 z123_1 z123_2 z123_3 z123_4 z123_5 z123_6 z123_7 z123_8)
              (try clear z126_0 z126_1 z126_2 z126_3 z126_4 z126_5 z126_6 z126_7 z126_8)
              (try clear z135_0 z135_1 z135_2 z135_3 z135_4 z135_5 z135_6 z135_7 z135_8)
              (try clear z137_0 z137_1 z137_2 z137_3 z137_4 z137_5 z137_6 z137_7 z137_8)
              (try clear z148_0 z148_1 z148_2 z148_3 z148_4 z148_5 z148_6 z148_7 z148_8)
              (try clear z164_0 z164_1 z164_2 z164_3 z164_4 z164_5 z164_6 z164_7 z164_8)
              (try clear z175_0 z175_1 z175_2 z175_3 z175_4 z175_5 z175_6 z175_7 z175_8)
              (try clear z179_0 z179_1 z179_2 z179_3 z179_4 z179_5 z179_6 z179_7 z179_8)
              (try clear z185_0 z185_1 z185_2 z185_3 z185_4 z185_5 z185_6 z185_7 z185_8)
              (try clear z189_0 z189_1 z189_2 z189_3 z189_4 z189_5 z189_6 z189_7 z189_8)
              (try clear v106_0 v106_1 v106_2 v106_3 v106_4 v106_5 v106_6 v106_7 v106_8)
              (try clear v115_0 v115_1 v115_2 v115_3 v115_4 v115_5 v115_6 v115_7 v115_8)
              (try clear v118_0 v118_1 v118_2 v118_3 v118_4 v118_5 v118_6 v118_7 v118_8)
              (try clear v123_0 v123_1 v123_2 v123_3 v123_4 v123_5 v123_6 v123_7 v123_8)
              (try clear v126_0 v126_1 v126_2 v126_3 v126_4 v126_5 v126_6 v126_7 v126_8)
              (try clear v135_0 v135_1 v135_2 v135_3 v135_4 v135_5 v135_6 v135_7 v135_8)
              (try clear v137_0 v137_1 v137_2 v137_3 v137_4 v137_5 v137_6 v137_7 v137_8)
              (try clear v148_0 v148_1 v148_2 v148_3 v148_4 v148_5 v148_6 v148_7 v148_8)
              (try clear v164_0 v164_1 v164_2 v164_3 v164_4 v164_5 v164_6 v164_7 v164_8)
              (try clear v175_0 v175_1 v175_2 v175_3 v175_4 v175_5 v175_6 v175_7 v175_8)
              (try clear v179_0 v179_1 v179_2 v179_3 v179_4 v179_5 v179_6 v179_7 v179_8)
              (try clear v185_0 v185_1 v185_2 v185_3 v185_4 v185_5 v185_6 v185_7 v185_8)
              (try clear v189_0 v189_1 v189_2 v189_3 v189_4 v189_5 v189_6 v189_7 v189_8)
              (try clear v6_1 v6_2 v6_3 v6_4 v6_5 v6_6 v6_7 v6_8)
              (try clear v70_0 v70_1 v70_2 v70_3 v70_4 v70_5 v70_6 v70_7 v70_8)
              (try clear v75_0 v75_1 v75_2 v75_3 v75_4 v75_5 v75_6 v75_7 v75_8)
              (try clear v78_0 v78_1 v78_2 v78_3 v78_4 v78_5 v78_6 v78_7 v78_8)
              (try clear p2)
              obtain ⟨kq, x110_143, rfl, HA, HJ143, HO_540000, HO_540004, HO_540006, HO_540007, HO_540008, HO_560000, HO_560004, HO_560006, HO_560007, HO_560008, HO_584000, HO_584004, HO_584006, HO_584007, HO_584008, HO_668000, HO_668004, HO_668006, HO_668007, HO_668008, BK494, BK539, BK559, BK583, BK667, HB⟩ := hcut
              have hl584000_143 := (Kd.R_reads' HO_584000.out).1
              rw [hl584000_143] at HO_584000
              (try simp only [hl584000_143] at BK494 BK539 BK559 BK583 BK667 HO_540000 HO_540004 HO_540006 HO_540007 HO_540008 HO_560000 HO_560004 HO_560006 HO_560007 HO_560008 HO_584004 HO_584006 HO_584007 HO_584008 HO_668000 HO_668004 HO_668006 HO_668007 HO_668008 ⊢)
              have hl584004_143 := (Kd.R_reads' HO_584004.out).1
              rw [hl584004_143] at HO_584004
              (try simp only [hl584004_143] at BK494 BK539 BK559 BK583 BK667 HO_540000 HO_540004 HO_540006 HO_540007 HO_540008 HO_560000 HO_560004 HO_560006 HO_560007 HO_560008 HO_584000 HO_584006 HO_584007 HO_584008 HO_668000 HO_668004 HO_668006 HO_668007 HO_668008 ⊢)
              have hl584006_143 := (Kd.R_reads' HO_584006.out).1
              rw [hl584006_143] at HO_584006
              (try simp only [hl584006_143] at BK494 BK539 BK559 BK583 BK667 HO_540000 HO_540004 HO_540006 HO_540007 HO_540008 HO_560000 HO_560004 HO_560006 HO_560007 HO_560008 HO_584000 HO_584004 HO_584007 HO_584008 HO_668000 HO_668004 HO_668006 HO_668007 HO_668008 ⊢)
              have hl584007_143 := (Kd.R_reads' HO_584007.out).1
              rw [hl584007_143] at HO_584007
              (try simp only [hl584007_143] at BK494 BK539 BK559 BK583 BK667 HO_540000 HO_540004 HO_540006 HO_540007 HO_540008 HO_560000 HO_560004 HO_560006 HO_560007 HO_560008 HO_584000 HO_584004 HO_584006 HO_584008 HO_668000 HO_668004 HO_668006 HO_668007 HO_668008 ⊢)
              have hl584008_143 := (Kd.R_reads' HO_584008.out).1
              rw [hl584008_143] at HO_584008
              (try simp only [hl584008_143] at BK494 BK539 BK559 BK583 BK667 HO_540000 HO_540004 HO_540006 HO_540007 HO_540008 HO_560000 HO_560004 HO_560006 HO_560007 HO_560008 HO_584000 HO_584004 HO_584006 HO_584007 HO_668000 HO_668004 HO_668006 HO_668007 HO_668008 ⊢)
              cases kq with
              | zero => exact absurd HA.out (by simp [laws_FnExactDecide.j2])
              | succ kj143 =>
               have H := HA.out
               clear HA
               simp only [laws_FnExactDecide.j2] at H
               by_cases c191 : x110_143 = true
               ·subst c191
                rw [if_pos rfl] at H
                obtain rfl := Option.some.inj H
                go_wp2
                go_ret
                exact ⟨ee, bb HB⟩
               ·replace c191 := Bool.eq_false_iff.mpr c191
                subst c191
                rw [if_neg (show ¬ (false = true) by decide)] at H
                replace H := Option.bind_eq_some_iff.mp H
                obtain ⟨t669, A1920, H⟩ := H
                try dsimp only at H
                have A192 := dk A1920
                clear A1920
                have HC193 := dk H
                clear H
                have hnb194 := NB583_494.out
                have hnc194 := NB494_583.out
                have hnb195 := NB583_539.out
                have hnc195 := NB539_583.out
                have hnb196 := NB583_559.out
                have hnc196 := NB559_583.out
                have hnb197 := NB583_667.out
                have hnc197 := NB667_583.out
                have ⟨z198_0, z198_1, z198_2, z198_3, z198_4, z198_5, z198_6, z198_7, z198_8, v198_0, v198_1, v198_2, v198_3, v198_4, v198_5, v198_6, v198_7, v198_8⟩ := rz9 BK583
                go_upto_if 115 with (first | ((with_reducible refine gate_callee (f := 20) rfl ?_); refine gl (some 113) Try.func20 #[.agg #[.slice Ao53 t619.length co53, .int .i64 t566, .int .i64 t567, .int .i64 t568, .slice Ao58 t620.length co58, .bool t572, .slice Ao59 t621.length co59, .slice Ao60 t622.length co60, .slice Ao61 t623.length co61], .int .i64 1] ?_; (with_reducible refine (laws_heldBook.calls kj143 _ _ t619 t566 t567 t568 _ _ t620 t572 _ _ t621 _ _ t622 _ _ t623 1 t669 _ ?side1 ?side2 ?side3 ?side4 ?side5 ?side6 ?side7 ?side8 ?side9 ?side10 A192.out).mono ?_); (case side1 => exact cr HO_584000); (case side2 => exact cl HO_584000); (case side3 => exact cr HO_584004); (case side4 => exact cl HO_584004); (case side5 => exact cr HO_584006); (case side6 => exact cl HO_584006); (case side7 => exact cr HO_584007); (case side8 => exact cl HO_584007); (case side9 => exact cr HO_584008); (case side10 => exact cl HO_584008); rintro e w199 ⟨rfl, hb⟩; refine ⟨_, rfl, ?_⟩; replace HO_540000 := kr HO_540000 hb; replace HO_540004 := kr HO_540004 hb; replace HO_540006 := kr HO_540006 hb; replace HO_540007 := kr HO_540007 hb; replace HO_540008 := kr HO_540008 hb; replace HO_560000 := kr HO_560000 hb; replace HO_560004 := kr HO_560004 hb; replace HO_560006 := kr HO_560006 hb; replace HO_560007 := kr HO_560007 hb; replace HO_560008 := kr HO_560008 hb; replace HO_584000 := kr HO_584000 hb; replace HO_584004 := kr HO_584004 hb; replace HO_584006 := kr HO_584006 hb; replace HO_584007 := kr HO_584007 hb; replace HO_584008 := kr HO_584008 hb; replace HO_668000 := kr HO_668000 hb; replace HO_668004 := kr HO_668004 hb; replace HO_668006 := kr HO_668006 hb; replace HO_668007 := kr HO_668007 hb; replace HO_668008 := kr HO_668008 hb; replace BK494 := kb BK494 hb; replace BK539 := kb BK539 hb; replace BK559 := kb BK559 hb; replace BK583 := kb BK583 hb; replace BK667 := kb BK667 hb; replace HB := hs_ HB hb; (try clear hb hb2 hk hi)))
                (try simp only [Act.put, List.setIfInBounds_toArray, List.set_cons_zero, List.set_cons_succ])
                have H := HC193.out
                clear HC193
                by_cases c200 : t669 < 0
                ·rw [if_pos c200] at H
                 have c200b0 : decide (t669 < 0) = true := decide_eq_true c200
                 clear c200
                 (first | rw [c200b0] | rw [c200b1] | (simp only [i64_w, i32_w]; rw [c200b0]) | skip)
                 obtain rfl := Option.some.inj H
                 go_wp2
                 go_ret
                 exact ⟨ee, bb HB⟩
                ·rw [if_neg c200] at H
                 have c200b0 : decide (t669 < 0) = false := decide_eq_false c200
                 clear c200
                 (first | rw [c200b0] | rw [c200b1] | (simp only [i64_w, i32_w]; rw [c200b0]) | skip)
                 by_cases c201 : t669 = t618
                 ·rw [if_pos c201] at H
                  have c201b0 : (t669 == t618) = true := beq_iff_eq.mpr c201
                  have c201b1 : (t669 != t618) = false := bne_eq_false_iff_eq.mpr c201
                  clear c201
                  obtain rfl := Option.some.inj H
                  go_wp2
                  go_ret
                  exact ⟨ee, bb HB⟩
                 ·rw [if_neg c201] at H
                  have c201b0 : (t669 == t618) = false := beq_eq_false_iff_ne.mpr c201
                  have c201b1 : (t669 != t618) = true := bne_iff_ne.mpr c201
                  obtain rfl := Option.some.inj H
                  go_wp2
                  go_ret
                  exact ⟨ee, bb HB⟩
            ·rw [if_neg c140] at H
             have c140b0 : (t624 == t618) = false := beq_eq_false_iff_ne.mpr c140
             have c140b1 : (t624 != t618) = true := bne_iff_ne.mpr c140
             obtain rfl := Option.some.inj H
             go_wp2
             go_ret
             exact ⟨ee, bb HB⟩
       ·replace c99 := Bool.eq_false_iff.mpr c99
        subst c99
        rw [if_neg (show ¬ (false = true) by decide)] at H
        obtain rfl := Option.some.inj H
        go_wp2
        go_ret
        exact ⟨ee, bb HB⟩
      ·replace c92 := Bool.eq_false_iff.mpr c92
       subst c92
       rw [if_neg (show ¬ (false = true) by decide)] at H
       obtain rfl := Option.some.inj H
       go_wp2
       go_ret
       exact ⟨ee, bb HB⟩
end Go.Proofs.Ythfefanapneocaa.Q
end
namespace Go.Proofs.Ythfefanapneocaa.Opens
open Go.ChangeShapes Go.WideShapes Go.ChangeAt Go.RowKit Go.Proofs.Ythfefanapneocaa.Q Go.Proofs.YthfefanapneocaaW.PrintWords Go.Proofs.YthfefanapneocaaW.PrintLast
section
variable {H : Type} (enc : TypeId × Value → H) (P : Program) (W : World)
def Opens {α : Type} (t : TypeId) (d : Kd α) (ok : α → Prop) : Prop := ∀ (fuel : Nat) (cs : List Value) (x : DataW H × List MemPlace), DataW.trod enc P W 0 (fun _ => true) true fuel t cs = some x → ∃ a, d.K W a cs ∧ ok a
def OpensFs {α : Type} (off : Nat) (fs : List Field) (d : Kd α) (ok : α → Prop) : Prop :=
  ∀ (n : Nat) (cs : List Value) (xs : List (DataW H × List MemPlace)), (∀ (i : Nat) (f : Field), fs[i]? = some f → DataW.trod enc P W 0 (fun _ => true) true n f.type ((cs.drop f.offset).take (P.cellsOf f.type)) = xs[i]?) → xs.length = fs.length → cs.length = off + d.sz → ∃ a, d.K W a (cs.drop off) ∧ ok a
variable {enc P W}
variable {α β : Type} {t : TypeId} {d : Kd α} {d2 : Kd β} {ok : α → Prop} {ok2 : β → Prop}
theorem int {k : IntKind} (ht : P.underlying t = some (.int k)) : Opens enc P W t (Kd.int k) (fun n => (Lit.int k n).wf = true) := fun fuel cs x h => by
  obtain ⟨n, rfl, _, hw⟩ := DataW.trod_int ht h
  exact ⟨n, rfl, hw⟩
theorem bool (ht : P.underlying t = some .bool) : Opens enc P W t Kd.bool (fun _ => True) := fun fuel cs x h => by
  obtain ⟨b, rfl, _⟩ := DataW.trod_bool ht h
  exact ⟨b, rfl, trivial⟩
theorem string (ht : P.underlying t = some .string) : Opens enc P W t Kd.string (fun s => s.size ≤ maxLen) := fun fuel cs x h => by
  obtain ⟨s, rfl, _, hs⟩ := DataW.trod_string ht h
  exact ⟨s, rfl, hs⟩
theorem cells_get {w : World} {base : Nat} {a : Addr} {n : Nat} {cs : List Value} (h : w.cells? base a n = some cs) : cs.length = n ∧ ∀ i u, cs[i]? = some u → w.cell? (a.add i) = some u := by
  unfold World.cells? at h
  split at h
  · have hl := mapM_some_length h
    refine ⟨by simpa using hl, fun i u hi => ?_⟩
    have hlt : i < n := by have := (List.getElem?_eq_some_iff.mp hi).1; simp at hl; omega
    have := mapM_some_get h i i (by simp [hlt])
    rw [this, hi]
  · cases h
theorem add_add (a : Addr) (i j : Nat) : (a.add i).add j = a.add (i + j) := by
  unfold Addr.add
  by_cases hi : i = 0
  · subst hi; simp
  · by_cases hj : j = 0
    · subst hj; simp [hi]
    · simp [hi, hj]; omega
theorem slice {e : TypeId} (ht : P.underlying t = some (.slice e)) (he : Opens enc P W e d ok) (hc : P.cellsOf e = d.sz) (q : Nat) : Opens enc P W t (Kd.slice q d) (fun l => l.length ≤ maxLen ∧ ∀ x ∈ l, ok x) := fun fuel cs x h => by
  rcases DataW.trod_slice ht h with ⟨rfl, _⟩ | ⟨a, len, cap, elems, rest, n, _, rfl, _, _, hl, hm, hlen, hel, _⟩
  · exact ⟨[], ⟨none, 0, rfl, Nat.le_refl _, rfl, Nat.zero_le _, fun h => absurd h (Nat.not_lt_zero _)⟩, Nat.zero_le _, fun x hx => by cases hx⟩
  · have each : ∀ i : Fin len, ∃ p : α, ok p ∧ ∃ c, c.length = d.sz ∧ d.K W p c ∧ ∀ j u, c[j]? = some u → W.cell? (a.add (i.1 * d.sz + j)) = some u := by
      intro i
      have h1 := hel i.1 i.2
      obtain ⟨y, hy⟩ : ∃ y, elems[i.1]? = some y := ⟨elems[i.1]'(by have := i.2; omega), List.getElem?_eq_getElem (by have := i.2; omega)⟩
      rw [hy, Option.bind_eq_some_iff] at h1
      obtain ⟨c, hcs, htr⟩ := h1
      rw [hc] at hcs
      obtain ⟨p, hK, hok⟩ := he _ _ _ htr
      obtain ⟨h2, h3⟩ := cells_get hcs
      exact ⟨p, hok, c, h2, hK, fun j u hj => by rw [← add_add]; exact h3 j u hj⟩
    let f : Fin len → α := fun i => (each i).choose
    have hf : ∀ i : Fin len, ok (f i) ∧ ∃ c, c.length = d.sz ∧ d.K W (f i) c ∧ ∀ j u, c[j]? = some u → W.cell? (a.add (i.1 * d.sz + j)) = some u := fun i => (each i).choose_spec
    have hm' : len ≤ maxLen := Nat.le_trans hl hm
    refine ⟨List.ofFn f, ⟨some a, cap, by simp, by simpa using hl, by simp, by simpa [maxLen] using hm', fun _ => ⟨a, rfl, fun j p hj => ?_⟩⟩, by simpa using hm', fun x hx => ?_⟩
    · have hlt : j < len := by have := (List.getElem?_eq_some_iff.mp hj).1; simpa using this
      have : p = f ⟨j, hlt⟩ := by rw [List.getElem?_eq_getElem (by simpa using hlt)] at hj; simpa using hj.symm
      subst this
      obtain ⟨_, c, h1, h2, h3⟩ := hf ⟨j, hlt⟩
      exact ⟨c, h1, h2, h3⟩
    · obtain ⟨i, hi, rfl⟩ := List.mem_iff_getElem.mp hx
      simp only [List.getElem_ofFn]
      exact (hf _).1
theorem one {f : Field} (off : Nat) (ho : f.offset = off) (he : Opens enc P W f.type d ok) (hc : P.cellsOf f.type = d.sz) : OpensFs enc P W off [f] d ok := fun n cs xs h hx hl => by
  have h0 := h 0 f rfl
  have hz : xs.length = 1 := hx
  obtain ⟨y, rfl⟩ := List.length_eq_one_iff.mp hz
  rw [ho, hc, List.take_of_length_le (by simp; omega)] at h0
  exact he _ _ _ h0
theorem cons {f : Field} {fs : List Field} (off off2 : Nat) (ho : f.offset = off) (he : Opens enc P W f.type d ok) (hc : P.cellsOf f.type = d.sz) (h2 : off + d.sz = off2) (hr : OpensFs enc P W off2 fs d2 ok2) :
    OpensFs enc P W off (f :: fs) (Kd.pair d d2) (fun x => ok x.1 ∧ ok2 x.2) := fun n cs xs h hx hl => by
  cases xs with
  | nil => simp at hx
  | cons y ys =>
    have h0 := h 0 f rfl
    rw [ho, hc] at h0
    obtain ⟨p, hp, hok⟩ := he _ _ _ h0
    have hl' : cs.length = off + (d.sz + d2.sz) := hl
    obtain ⟨q, hq, hok2⟩ := hr n cs ys (fun i g hi => h (i + 1) g hi) (by simpa using hx) (by omega)
    refine ⟨(p, q), ⟨_, _, ?_, hp, hq⟩, hok, hok2⟩
    rw [← h2, ← List.drop_drop, List.take_append_drop]
theorem struct {fs : Array Field} (ht : P.underlying t = some (.struct fs)) (hc : P.cellsOf t = d.sz) (h : OpensFs enc P W 0 fs.toList d ok) : Opens enc P W t d ok := fun fuel cs x hx => by
  obtain ⟨xs, n, _, _, hl, hxs, hf⟩ := DataW.trod_struct ht hx
  have := h n cs xs (fun i f hi => hf i f (by simpa using hi)) (by simpa using hxs) (by omega)
  simpa using this
theorem iso {f : β → α} (g : α → β) (hg : ∀ x, f (g x) = x) (h : Opens enc P W t d ok) : Opens enc P W t (Kd.iso d f) (fun y => ok (f y)) := fun fuel cs x hx => by
  obtain ⟨p, hp, hok⟩ := h _ _ _ hx
  exact ⟨g p, by show d.K W (f (g p)) cs; rw [hg]; exact hp, by show ok (f (g p)); rw [hg]; exact hok⟩
end
theorem trod_struct_val {H : Type} {enc : TypeId × Value → H} {P : Program} {W : World} {r : Reach} {b0 : Nat} {t : TypeId} {v : Value} {fs : Array Field} {α : Type} {d : Kd α} {ok : α → Prop} {dd : DataW H} {ps : List MemPlace} (ht : P.underlying t = some (.struct fs)) (hval : Value.okWide P W r b0 t v) (hd : DataW.Trod enc P W 0 (fun _ => true) true t v dd ps) (h : Opens enc P W t d ok) :
    ∃ cs a, v = .agg cs ∧ d.K W a cs.toList ∧ ok a := by
  obtain ⟨cs, rfl, _⟩ := okWide_struct ht hval
  obtain ⟨fuel, hf⟩ := hd
  obtain ⟨a, hK, hok⟩ := h _ _ _ hf
  exact ⟨cs, a, rfl, by simpa [Value.cells] using hK, hok⟩
theorem trod_slice_val {H : Type} {enc : TypeId × Value → H} {P : Program} {W : World} {r : Reach} {b0 : Nat} {t e : TypeId} {v : Value} {α : Type} {d : Kd α} {ok : List α → Prop} {q : Nat} {dd : DataW H} {ps : List MemPlace} (ht : P.underlying t = some (.slice e)) (hval : Value.okWide P W r b0 t v) (hd : DataW.Trod enc P W 0 (fun _ => true) true t v dd ps) (h : Opens enc P W t (Kd.slice q d) ok) :
    ∃ A c l, v = .slice A l.length c ∧ l.length ≤ c ∧ d.C W A l.length l ∧ ok l := by
  obtain ⟨a0, len0, cap0, rfl⟩ := okWide_slice ht hval
  obtain ⟨fuel, hf⟩ := hd
  obtain ⟨l, ⟨A, c, he, hl, hC⟩, hok⟩ := h _ _ _ hf
  refine ⟨A, c, l, by simpa [Value.cells] using he, hl, hC, hok⟩
end Go.Proofs.Ythfefanapneocaa.Opens
namespace Go.Proofs.Ythfefanapneocaa.Q
open Go.RowKit Go.Proofs.YthfefanapneocaaW.PrintWords Go.Proofs.YthfefanapneocaaW.PrintLast Go.Proofs.YthfefanapneocaaW.PrintMore
abbrev Team := S139
abbrev Game := S95
theorem wrap_id (x : Int) (h0 : -9223372036854775808 ≤ x) (h1 : x ≤ 9223372036854775807) : wrap64 x = x := by unfold wrap64; omega
theorem Ev.down {β : Type} (n : Nat) (F : Nat → Nat → Option β) (V : Nat → β) (hend : Ev (F n) (V n)) (hstep : ∀ i, i < n → Ev (F (i + 1)) (V (i + 1)) → Ev (F i) (V i)) : Ev (F 0) (V 0) := by
  have key : ∀ d i, i + d = n → Ev (F i) (V i) := by
    intro d
    induction d with
    | zero => intro i hi; obtain rfl : i = n := by omega
              exact hend
    | succ d ih => intro i hi; exact hstep i (by omega) (ih (i + 1) (by omega))
  exact key n 0 (by omega)
theorem Ev.eq {β : Type} {g : Nat → Option β} {r q : β} (h : Ev g r) (e : r = q) : Ev g q := e ▸ h
theorem Ev.loop {β : Type} {g : Nat → Option β} {r : β} (n : Nat) (F : Nat → Nat → Option β) (V : Nat → β) (hg : ∀ k, g k = F 0 k) (hr : V 0 = r) (hend : Ev (F n) (V n)) (hstep : ∀ i, i < n → Ev (F (i + 1)) (V (i + 1)) → Ev (F i) (V i)) : Ev g r :=
  Ev.eq (Ev.congr hg (Ev.down n F V hend hstep)) hr
theorem Ev.from {β : Type} {g : Nat → Option β} {r : β} (K : Nat) (h : ∀ k, K < k → g k = some r) : Ev g r := ⟨K + 1, fun k hk => h k (by omega)⟩
theorem Ev.val {β : Type} {g : Nat → Option β} {r : β} (h : ∀ k, g k = some r) : Ev g r := ⟨0, fun k _ => h k⟩
theorem rd_eq (l : List Int) (i : Nat) (h : i < l.length) : rd l (i : Int) = l[i] := by
  unfold rd; simp [h]
theorem rdG_eq (l : List Game) (i : Nat) (h : i < l.length) : rd_T95 l (i : Int) = l[i] := by
  unfold rd_T95; simp [h]
theorem wrap_succ (i : Nat) (h : i < 4611686018427387904) : wrap64 ((i : Int) + 1) = ((i + 1 : Nat) : Int) := by unfold wrap64; omega
def indexI (l : List Int) (x : Int) : Int := idxI (fun y => decide (x = y)) l
theorem index_eq (l : List Int) (x : Int) (hl : l.length ≤ 2305843009213693952) (k : Nat) (hk : l.length < k) : slices_Index_int_int.f k l x = some (indexI l x) := by
  have key : ∀ (d i : Nat), l.length - i = d → i ≤ l.length → ∀ k, d < k → slices_Index_int_int.l0 k l x l.length i = some (if idxI (fun y => decide (x = y)) (l.drop i) < 0 then -1 else idxI (fun y => decide (x = y)) (l.drop i) + i) := by
    intro d
    induction d with
    | zero =>
      intro i hd hi k hk
      obtain ⟨k, rfl⟩ : ∃ m, k = m + 1 := ⟨k - 1, by omega⟩
      simp only [slices_Index_int_int.l0]
      rw [if_neg (by omega), List.drop_eq_nil_of_le (by omega)]
      rfl
    | succ d ih =>
      intro i hd hi k hk
      obtain ⟨k, rfl⟩ : ∃ m, k = m + 1 := ⟨k - 1, by omega⟩
      have hlt : i < l.length := by omega
      have := ih (i + 1) (by omega) (by omega) k (by omega)
      simp only [slices_Index_int_int.l0]
      rw [if_pos (by omega), if_pos (by omega), if_pos (by omega), rd_eq l i hlt, wrap_succ i (by omega), this, List.drop_eq_getElem_cons hlt]
      simp only [idxI]
      grind
  unfold slices_Index_int_int.f indexI
  have := key l.length 0 (by omega) (by omega) k hk
  rw [List.drop_zero] at this
  have h2 := idxI_any (fun y => decide (x = y)) l
  refine Eq.trans this ?_
  congr 1
  by_cases h : idxI (fun y => decide (x = y)) l < 0
  · rw [if_pos h]
    have : ∀ l : List Int, idxI (fun y => decide (x = y)) l = -1 ∨ 0 ≤ idxI (fun y => decide (x = y)) l := by
      intro l
      induction l with
      | nil => exact .inl rfl
      | cons y l ih => simp only [idxI]; grind
    rcases this l with h3 | h3
    · exact h3.symm
    · omega
  · rw [if_neg h]; simp
def hasI (l : List Int) (x : Int) : Bool := l.any fun y => decide (x = y)
theorem contains_eq (l : List Int) (x : Int) (hl : l.length ≤ 2305843009213693952) (k : Nat) (hk : l.length < k) : slices_Contains_int_int.f k l x = some (hasI l x) := by
  unfold slices_Contains_int_int.f hasI
  rw [index_eq l x hl k hk, ← idxI_any]
  rfl
theorem isKey_eq (x : Int) : impl_isKey.f x = some (withinB x 1 8) := by unfold impl_isKey.f; rw [within_eq]; rfl
def ladderFrom : List Int → List Int → Bool
  | _, [] => true
  | pre, k :: l => withinB k 1 8 && !hasI pre k && ladderFrom (pre ++ [k]) l
def rulesOkB (win draw loss : Int) (ladder : List Int) : Bool := ladderFrom [] ladder && decide (0 ≤ loss) && decide (loss ≤ draw) && decide (draw ≤ win) && decide (win ≤ 10) && withinB ladder.length 1 8
theorem rulesOk_eq (win draw loss : Int) (l : List Int) (again : Bool) (hl : l.length ≤ 2305843009213693952) (k : Nat) (hk : 2 * l.length + 2 < k) : impl_RulesOk.f k win draw loss l again = some (rulesOkB win draw loss l) := by
  have key : ∀ (d i : Nat), l.length - i = d → i ≤ l.length → ∀ k, l.length + d + 1 < k → impl_RulesOk.l0 k l l.length i win draw loss l again = some (ladderFrom (l.take i) (l.drop i) && decide (0 ≤ loss) && decide (loss ≤ draw) && decide (draw ≤ win) && decide (win ≤ 10) && withinB l.length 1 8) := by
    intro d
    induction d with
    | zero =>
      intro i hd hi k hk
      obtain ⟨k, rfl⟩ : ∃ m, k = m + 1 := ⟨k - 1, by omega⟩
      simp only [impl_RulesOk.l0]
      rw [if_neg (by omega), List.drop_eq_nil_of_le (by omega), ladderFrom, within_eq]
      simp only [Option.bind_some]
      grind
    | succ d ih =>
      intro i hd hi k hk
      obtain ⟨k, rfl⟩ : ∃ m, k = m + 1 := ⟨k - 1, by omega⟩
      have hlt : i < l.length := by omega
      have := ih (i + 1) (by omega) (by omega) k (by omega)
      simp only [impl_RulesOk.l0]
      rw [if_pos (by omega), if_pos (by omega), if_pos (by omega), rd_eq l i hlt, wrap_succ i (by omega), this, List.drop_eq_getElem_cons hlt, isKey_eq, Int.toNat_natCast, contains_eq _ _ (by rw [List.length_take]; omega) k (by rw [List.length_take]; omega)]
      simp only [Option.bind_some, ladderFrom]
      rw [if_pos (show (i : Int) ≤ l.length by omega), List.take_succ_eq_append_getElem hlt]
      cases withinB l[i] 1 8 <;> cases hasI (l.take i) l[i] <;> simp
  unfold impl_RulesOk.f rulesOkB
  have := key l.length 0 (by omega) (by omega) k (by omega)
  simpa using this
def gameOkB (n : Int) (g : Game) : Bool := withinB n 2 8 && !decide (g.f0 = g.f1) && withinB g.f0 0 (n - 1) && withinB g.f1 0 (n - 1) && withinB g.f4 0 4 && withinB g.f2 0 (if g.f4 = 1 then 99 else 0) && withinB g.f3 0 (if g.f4 = 1 then 99 else 0)
theorem gameOk_eq (n : Int) (g : Game) (k : Nat) (hk : 0 < k) : impl_GameOk.f k n g.f0 g.f1 g.f2 g.f3 g.f4 = some (gameOkB n g) := by
  obtain ⟨k, rfl⟩ : ∃ m, k = m + 1 := ⟨k - 1, by omega⟩
  have hw : withinB n 2 8 = true → wrap64 (n - 1) = n - 1 := by
    intro h
    simp [withinB] at h
    unfold wrap64; omega
  have key : ∀ most : Int, impl_GameOk.j0 (k + 1) n most g.f0 g.f1 g.f2 g.f3 g.f4 = some (withinB n 2 8 && !decide (g.f0 = g.f1) && withinB g.f0 0 (n - 1) && withinB g.f1 0 (n - 1) && withinB g.f4 0 4 && withinB g.f2 0 most && withinB g.f3 0 most) := by
    intro most
    simp only [impl_GameOk.j0, within_eq, Option.bind_some]
    cases h : withinB n 2 8 with
    | false => simp
    | true =>
      rw [hw h]
      by_cases h1 : g.f0 = g.f1 <;> simp [h1] <;> grind
  unfold impl_GameOk.f gameOkB
  by_cases h : g.f4 = 1
  · rw [if_pos h, key, if_pos h]
  · rw [if_neg h, key, if_neg h]
def seasonFrom (n : Int) : List Game → List Game → Bool
  | _, [] => true
  | pre, g :: l => gameOkB n g && !pre.any (gameIs g.f0 g.f1) && seasonFrom n (pre ++ [g]) l
def seasonOkB (n : Int) (l : List Game) : Bool := seasonFrom n [] l && decide ((l.length : Int) ≤ 60)
theorem seasonOk_eq (n : Int) (l : List Game) (hl : l.length ≤ 2305843009213693952) (k : Nat) (hk : l.length + 2 < k) : impl_SeasonOk.f k n l = some (seasonOkB n l) := by
  have key : ∀ (d i : Nat), l.length - i = d → i ≤ l.length → ∀ k, d + 1 < k → impl_SeasonOk.l0 k n l l l.length i = some (seasonFrom n (l.take i) (l.drop i) && decide ((l.length : Int) ≤ 60)) := by
    intro d
    induction d with
    | zero =>
      intro i hd hi k hk
      obtain ⟨k, rfl⟩ : ∃ m, k = m + 1 := ⟨k - 1, by omega⟩
      simp only [impl_SeasonOk.l0]
      rw [if_neg (by omega), List.drop_eq_nil_of_le (by omega), seasonFrom]
      rfl
    | succ d ih =>
      intro i hd hi k hk
      obtain ⟨k, rfl⟩ : ∃ m, k = m + 1 := ⟨k - 1, by omega⟩
      have hlt : i < l.length := by omega
      have := ih (i + 1) (by omega) (by omega) k (by omega)
      simp only [impl_SeasonOk.l0]
      rw [if_pos (by omega), if_pos (by omega), if_pos (by omega), rdG_eq l i hlt, wrap_succ i (by omega), this, List.drop_eq_getElem_cons hlt, gameOk_eq _ _ k (by omega), Int.toNat_natCast]
      simp only [Option.bind_some, seasonFrom, impl_GameOf.f]
      rw [if_pos (show (i : Int) ≤ l.length by omega), List.take_succ_eq_append_getElem hlt, ← idxI_any]
      by_cases h2 : idxI (gameIs l[i].f0 l[i].f1) (l.take i) ≥ 0
      · rw [if_pos h2, decide_eq_true (show 0 ≤ idxI (gameIs l[i].f0 l[i].f1) (l.take i) from h2)]
        cases gameOkB n l[i] <;> simp
      · rw [if_neg h2, decide_eq_false (show ¬ 0 ≤ idxI (gameIs l[i].f0 l[i].f1) (l.take i) from h2)]
        cases gameOkB n l[i] <;> simp
  unfold impl_SeasonOk.f seasonOkB
  have := key l.length 0 (by omega) (by omega) k (by omega)
  simpa using this
def penaltiesB (l : List Int) (n : Int) : Bool := decide ((l.length : Int) = n) && !l.any (fun x => !withinB x 0 1000)
def bookOkB (field : List Team) (win draw loss : Int) (ladder : List Int) (games : List Game) (fair taken : List Int) : Bool :=
  fieldOkB field && rulesOkB win draw loss ladder && seasonOkB field.length games && penaltiesB fair field.length && penaltiesB taken field.length
def Sized (field : List Team) (ladder : List Int) (games : List Game) : Prop :=
  (∀ t, t ∈ field → t.f0.size ≤ 4611686018427387904) ∧ ladder.length ≤ 1099511627776 ∧ games.length ≤ 1099511627776
theorem fieldOk_eq (field : List Team) (h : ∀ t, t ∈ field → t.f0.size ≤ 4611686018427387904) : impl_FieldOk.f field = some (fieldOkB field) := by
  unfold impl_FieldOk.f
  rw [if_pos]
  rw [List.all_eq_true]
  intro t ht
  exact decide_eq_true (h t ht)
theorem bookOk_eq (field : List Team) (win draw loss : Int) (ladder : List Int) (again : Bool) (games : List Game) (fair taken : List Int) (hs : Sized field ladder games) (k : Nat) (hk : 2 * ladder.length + games.length + 2 < k) :
    impl_BookOk.f k field win draw loss ladder again games fair taken = some (bookOkB field win draw loss ladder games fair taken) := by
  obtain ⟨h1, h2, h3⟩ := hs
  unfold impl_BookOk.f bookOkB
  rw [fieldOk_eq field h1, rulesOk_eq _ _ _ _ _ (by omega) k (by omega), seasonOk_eq _ _ (by omega) k (by omega)]
  simp only [Option.bind_some, impl_arePenalties.f, penaltiesB]
  cases fieldOkB field <;> cases rulesOkB win draw loss ladder <;> cases seasonOkB field.length games <;> simp
  grind
def mk (l : List UInt8) : ByteArray := ⟨l.toArray⟩
theorem mk_append (a b : List UInt8) : mk a ++ mk b = mk (a ++ b) := by
  apply ByteArray.ext
  simp [mk]
theorem mk_size (l : List UInt8) : (mk l).size = l.length := by simp [mk, ByteArray.size]
theorem strOfNums_mk (l : List Int) : strOfNums l = mk (l.map fun n => UInt8.ofNat n.toNat) := rfl
theorem set_next {α β : Type} (f : α → β) (z : β) (l : List α) (i : Nat) (h : i < l.length) (y : β) (hy : y = f l[i]) : ((l.take i).map f ++ List.replicate (l.length - i) z).set i y = (l.take (i + 1)).map f ++ List.replicate (l.length - (i + 1)) z := by
  rw [List.set_append, if_neg (by rw [List.length_map, List.length_take]; omega), List.take_succ_eq_append_getElem h, show l.length - i = (l.length - (i + 1)) + 1 by omega, List.replicate_succ, List.length_map, List.length_take, Nat.min_eq_left (by omega), Nat.sub_self, List.set_cons_zero, List.map_append, List.append_assoc, hy]
  rfl
theorem markText_l0 (m : Nat) : ∀ (x : Int) (s : List UInt8), 0 ≤ x → x.toNat < 10 ^ m → x ≤ 9223372036854775807 → s.length + m ≤ 1000 → ∃ t, ∀ k, laws_markText.l0 (k + m + 1) x (mk s) = some t := by
  induction m with
  | zero =>
    intro x s h0 h1 h2 hs
    have hx : x = 0 := by simp at h1; omega
    subst hx
    exact ⟨_, fun k => by rw [show k + 0 + 1 = k + 1 by omega, laws_markText.l0, if_neg (by decide), mk_size, if_pos (by omega)]⟩
  | succ m ih =>
    intro x s h0 h1 h2 hs
    by_cases hx : x > 0
    · have h10 : Int.tdiv x 10 = x / 10 := Int.tdiv_eq_ediv_of_nonneg h0
      have hlt : (x / 10).toNat < 10 ^ m := by
        have : x.toNat < 10 * 10 ^ m := by rw [Nat.pow_succ] at h1; omega
        omega
      obtain ⟨t, ht⟩ := ih (x / 10) ((([(wrap64 (48 + (Int.tmod x 10))) % 256] : List Int).map fun n => UInt8.ofNat n.toNat) ++ s) (by omega) hlt (by omega) (by simp; omega)
      refine ⟨t, fun k => ?_⟩
      rw [show k + (m + 1) + 1 = (k + m + 1) + 1 by omega, laws_markText.l0, if_pos hx, Option.bind_some, strOfNums_mk, mk_size, mk_size, if_pos (by simp; omega), mk_append, h10, wrap_id (x / 10) (by omega) (by omega)]
      exact ht k
    · have hx0 : x = 0 := by omega
      subst hx0
      exact ⟨_, fun k => by rw [show k + (m + 1) + 1 = (k + m + 1) + 1 by omega, laws_markText.l0, if_neg (by decide), mk_size, if_pos (by omega)]⟩
theorem markText_ex (x : Int) : ∃ t, 0 < x → x ≤ 1000000000 → Ev (fun k => laws_markText.f k x) t := by
  by_cases h : 0 < x ∧ x ≤ 1000000000
  · obtain ⟨t, ht⟩ := markText_l0 10 x [] (by omega) (by omega) (by omega) (by simp)
    refine ⟨t, fun _ _ => ⟨11, fun k hk => ?_⟩⟩
    have := ht (k - 11)
    rw [show k - 11 + 10 + 1 = k by omega] at this
    show laws_markText.f k x = some t
    unfold laws_markText.f
    rw [if_neg (by omega)]
    exact this
  · exact ⟨mk [], fun h1 h2 => absurd ⟨h1, h2⟩ h⟩
noncomputable def markT (x : Int) : ByteArray := (markText_ex x).choose
theorem markT_ev {x : Int} (h0 : 0 < x) (h1 : x ≤ 1000000000) : Ev (fun k => laws_markText.f k x) (markT x) := (markText_ex x).choose_spec h0 h1
theorem toInt_ev (l : List Int) (hl : l.length ≤ 1048576) : Ev (fun k => laws_toIntS.f k l) l := by
  have h : ∀ i, i ≤ l.length → Ev (fun k => laws_toIntS.l0 k l ((l.take i).map id ++ List.replicate (l.length - i) 0) (i : Int)) l := by
    intro i hi
    obtain ⟨d, hd⟩ : ∃ d, i + d = l.length := ⟨l.length - i, by omega⟩
    induction d generalizing i with
    | zero =>
      obtain rfl : i = l.length := by omega
      exact Ev.step (f := fun _ => some l) (fun k => by rw [laws_toIntS.l0, if_neg (by omega), List.take_length, Nat.sub_self]; simp) (Ev.now _)
    | succ d ih =>
      have hlt : i < l.length := by omega
      refine Ev.step (fun k => ?_) (ih (i + 1) (by omega) (by omega))
      rw [laws_toIntS.l0, if_pos (by omega), if_pos (by omega), rd_eq l i hlt, if_pos (by simp; omega), wrap_succ i (by omega), Int.toNat_natCast, set_next id 0 l i hlt l[i] rfl]
  refine Ev.congr (fun k => ?_) (h 0 (by omega))
  unfold laws_toIntS.f
  rw [if_pos (by omega), if_pos (by omega)]
  rfl
theorem eqInt_ev (l : List Int) (hl : l.length ≤ 1048576) : Ev (fun k => laws_eqIntS.f k l l) true := by
  refine Ev.loop l.length (fun i k => laws_eqIntS.l0 k l l (i : Int)) (fun _ => true) (fun k => by unfold laws_eqIntS.f; rw [if_pos rfl]; rfl) rfl ?_ ?_
  · exact Ev.step (f := fun _ => some true) (fun k => by rw [laws_eqIntS.l0, if_neg (by omega)]) (Ev.now _)
  · intro i hi h
    exact Ev.step (fun k => by rw [laws_eqIntS.l0, if_pos (by omega), if_pos (by omega), if_pos (by omega), if_pos rfl, wrap_succ i (by omega)]) h
def marksI (n : Nat) (a : Int) : List Int := (List.range n).map fun (j : Nat) => a + j
theorem marksI_len (n : Nat) (a : Int) : (marksI n a).length = n := by simp [marksI]
theorem marksI_succ (n : Nat) (a : Int) : marksI (n + 1) a = marksI n a ++ [a + n] := by simp [marksI, List.range_succ]
theorem marks_set {α : Type} (f : Nat → List α) (x : Nat → α) (hf : ∀ i, (f i).length = i) (hs : ∀ i, f (i + 1) = f i ++ [x i]) (l : List α) (i : Nat) (h : i < l.length) : (f i ++ l.drop i).set i (x i) = f (i + 1) ++ l.drop (i + 1) := by
  rw [List.set_append, if_neg (by rw [hf]; omega), hf, Nat.sub_self, List.drop_eq_getElem_cons h, List.set_cons_zero, hs, List.append_assoc]
  rfl
theorem marks_len {α : Type} (f : Nat → List α) (hf : ∀ i, (f i).length = i) (l : List α) (i : Nat) (h : i ≤ l.length) : (f i ++ l.drop i).length = l.length := by
  rw [List.length_append, hf, List.length_drop]; omega
theorem add_zero_cast (a : Int) : a + ((0 : Nat) : Int) = a := by omega
theorem markInt_ev (l : List Int) (a : Int) (h0 : 0 ≤ a) (hl : a + l.length ≤ 1000000000) : Ev (fun k => laws_markIntS.f k l a) (a + l.length, marksI l.length a) := by
  have hf := fun i => marksI_len i a
  refine Ev.loop l.length (fun i k => laws_markIntS.l0 k (marksI i a ++ l.drop i) (a + i) (i : Int)) (fun _ => (a + l.length, marksI l.length a)) (fun k => by rw [add_zero_cast]; rfl) rfl ?_ ?_
  · exact Ev.step (f := fun _ => some (a + l.length, marksI l.length a)) (fun k => by rw [laws_markIntS.l0, if_neg (by rw [marks_len _ hf l _ (Nat.le_refl _)]; omega), List.drop_length, List.append_nil]) (Ev.now _)
  · intro i hi h
    refine Ev.step (fun k => ?_) h
    rw [laws_markIntS.l0, if_pos (by rw [marks_len _ hf l i (by omega)]; omega), if_pos (by omega), Int.toNat_natCast, marks_set (fun i => marksI i a) (fun i => a + (i : Int)) hf (fun i => marksI_succ i a) l i hi, wrap_succ i (by omega), wrap_id _ (by omega) (by omega)]
    congr 1
    omega
theorem marksI_get (n : Nat) (a : Int) (i : Nat) (h : i < n) : (marksI n a)[i]'(by rw [marksI_len]; exact h) = a + i := by simp [marksI]
theorem heldInt_ev (n : Nat) (a : Int) (h0 : 0 ≤ a) (hl : a + n ≤ 1000000000) : Ev (fun k => laws_heldIntS.f k (marksI n a) a) (a + n) := by
  refine Ev.loop n (fun i k => laws_heldIntS.l0 k (marksI n a) (a + i) (i : Int)) (fun _ => a + n) (fun k => by rw [add_zero_cast]; rfl) rfl ?_ ?_
  · exact Ev.step (f := fun _ => some (a + n)) (fun k => by rw [laws_heldIntS.l0, if_neg (by rw [marksI_len]; omega)]) (Ev.now _)
  · intro i hi h
    refine Ev.step (fun k => ?_) h
    rw [laws_heldIntS.l0, if_pos (by rw [marksI_len]; omega), if_pos (by omega), rd_eq _ i (by rw [marksI_len]; omega), marksI_get n a i hi, if_pos rfl, wrap_succ i (by omega), wrap_id _ (by omega) (by omega)]
    congr 1
    omega
theorem szInt_eq (r : List Int) (x : Int) (h0 : 0 ≤ x) (h1 : x ≤ 1048576) (hr : r.length ≤ 9223372036854775807) : laws_szIntS.f r x = some (if x - r.length < 0 then -1 else x - r.length) := by
  unfold laws_szIntS.f
  rw [wrap_id _ (by omega) (by omega)]
  split <;> rfl
abbrev TeamA := S133
abbrev GameA := S147
def convT (x : TeamA) : Team := ⟨x.f0, x.f1, x.f2⟩
def convG (x : GameA) : Game := ⟨x.f0, x.f1, x.f2, x.f3, x.f4⟩
theorem rdTA_eq (l : List TeamA) (i : Nat) (h : i < l.length) : rd_T133 l (i : Int) = l[i] := by
  unfold rd_T133; simp [h]
theorem rdGA_eq (l : List GameA) (i : Nat) (h : i < l.length) : rd_T147 l (i : Int) = l[i] := by
  unfold rd_T147; simp [h]
theorem rdT_eq (l : List Team) (i : Nat) (h : i < l.length) : rd_T139 l (i : Int) = l[i] := by
  unfold rd_T139; simp [h]
theorem rdT_set (l : List Team) (i : Nat) (y : Team) (h : i < l.length) : rd_T139 (l.set i y) (i : Int) = y := by
  rw [rdT_eq _ i (by simpa using h)]; simp
theorem rdG_set (l : List Game) (i : Nat) (y : Game) (h : i < l.length) : rd_T95 (l.set i y) (i : Int) = y := by
  rw [rdG_eq _ i (by simpa using h)]; simp
theorem toTeam_ev (l : List TeamA) (hl : l.length ≤ 1048576) : Ev (fun k => laws_toTeamS.f k l) (l.map convT) := by
  refine Ev.loop l.length (fun i k => laws_toTeamS.l0 k l ((l.take i).map convT ++ List.replicate (l.length - i) z139) (i : Int)) (fun _ => l.map convT) (fun k => by unfold laws_toTeamS.f; rw [if_pos (by omega), if_pos (by omega)]; rfl) rfl ?_ ?_
  · exact Ev.step (f := fun _ => some (l.map convT)) (fun k => by rw [laws_toTeamS.l0, if_neg (by omega), List.take_length, Nat.sub_self]; simp) (Ev.now _)
  · intro i hi h
    refine Ev.step (fun k => ?_) h
    rw [laws_toTeamS.l0, if_pos (by omega), if_pos (by omega), rdTA_eq l i hi, laws_toTeam.f, Option.bind_some, if_pos (by simp; omega), wrap_succ i (by omega), Int.toNat_natCast, set_next convT z139 l i hi ⟨l[i].f0, l[i].f1, l[i].f2⟩ rfl]
theorem toGame_ev (l : List GameA) (hl : l.length ≤ 1048576) : Ev (fun k => laws_toGameS.f k l) (l.map convG) := by
  refine Ev.loop l.length (fun i k => laws_toGameS.l0 k l ((l.take i).map convG ++ List.replicate (l.length - i) z95) (i : Int)) (fun _ => l.map convG) (fun k => by unfold laws_toGameS.f; rw [if_pos (by omega), if_pos (by omega)]; rfl) rfl ?_ ?_
  · exact Ev.step (f := fun _ => some (l.map convG)) (fun k => by rw [laws_toGameS.l0, if_neg (by omega), List.take_length, Nat.sub_self]; simp) (Ev.now _)
  · intro i hi h
    refine Ev.step (fun k => ?_) h
    rw [laws_toGameS.l0, if_pos (by omega), if_pos (by omega), rdGA_eq l i hi, laws_toGame.f, Option.bind_some, if_pos (by simp; omega), wrap_succ i (by omega), Int.toNat_natCast, set_next convG z95 l i hi ⟨l[i].f0, l[i].f1, l[i].f2, l[i].f3, l[i].f4⟩ rfl]
theorem eqTeam_ev (l : List Team) (hl : l.length ≤ 1048576) : Ev (fun k => laws_eqTeamS.f k l l) true := by
  refine Ev.loop l.length (fun i k => laws_eqTeamS.l0 k l l (i : Int)) (fun _ => true) (fun k => by unfold laws_eqTeamS.f; rw [if_pos rfl]; rfl) rfl ?_ ?_
  · exact Ev.step (f := fun _ => some true) (fun k => by rw [laws_eqTeamS.l0, if_neg (by omega)]) (Ev.now _)
  · intro i hi h
    exact Ev.step (fun k => by rw [laws_eqTeamS.l0, if_pos (by omega), if_pos (by omega), if_pos (by omega), laws_eqTeam.f, if_pos rfl, if_pos rfl, if_pos rfl, Option.bind_some, if_pos rfl, wrap_succ i (by omega)]) h
theorem eqGame_ev (l : List Game) (hl : l.length ≤ 1048576) : Ev (fun k => laws_eqGameS.f k l l) true := by
  refine Ev.loop l.length (fun i k => laws_eqGameS.l0 k l l (i : Int)) (fun _ => true) (fun k => by unfold laws_eqGameS.f; rw [if_pos rfl]; rfl) rfl ?_ ?_
  · exact Ev.step (f := fun _ => some true) (fun k => by rw [laws_eqGameS.l0, if_neg (by omega)]) (Ev.now _)
  · intro i hi h
    exact Ev.step (fun k => by rw [laws_eqGameS.l0, if_pos (by omega), if_pos (by omega), if_pos (by omega), laws_eqGame.f, if_pos rfl, if_pos rfl, if_pos rfl, if_pos rfl, if_pos rfl, Option.bind_some, if_pos rfl, wrap_succ i (by omega)]) h
noncomputable def markTm (a : Int) : Team := ⟨markT a, a + 1, a + 2⟩
noncomputable def marksTm (n : Nat) (a : Int) : List Team := (List.range n).map fun (j : Nat) => markTm (a + 3 * j)
theorem marksTm_len (n : Nat) (a : Int) : (marksTm n a).length = n := by simp [marksTm]
theorem marksTm_succ (n : Nat) (a : Int) : marksTm (n + 1) a = marksTm n a ++ [markTm (a + 3 * n)] := by simp [marksTm, List.range_succ]
def markGm (a : Int) : Game := ⟨a, a + 1, a + 2, a + 3, a + 4⟩
def marksGm (n : Nat) (a : Int) : List Game := (List.range n).map fun (j : Nat) => markGm (a + 5 * j)
theorem marksGm_len (n : Nat) (a : Int) : (marksGm n a).length = n := by simp [marksGm]
theorem marksGm_succ (n : Nat) (a : Int) : marksGm (n + 1) a = marksGm n a ++ [markGm (a + 5 * n)] := by simp [marksGm, List.range_succ]
theorem mul_zero_cast (a c : Int) : a + c * ((0 : Nat) : Int) = a := by simp
theorem markTeam_ev (l : List Team) (a : Int) (h0 : 0 < a) (hl : a + 3 * l.length ≤ 1000000000) : Ev (fun k => laws_markTeamS.f k l a) (a + 3 * l.length, marksTm l.length a) := by
  have hf := fun i => marksTm_len i a
  refine Ev.loop l.length (fun i k => laws_markTeamS.l0 k (marksTm i a ++ l.drop i) (a + 3 * i) (i : Int)) (fun _ => (a + 3 * l.length, marksTm l.length a)) (fun k => by rw [mul_zero_cast]; rfl) rfl ?_ ?_
  · exact Ev.step (f := fun _ => some (a + 3 * l.length, marksTm l.length a)) (fun k => by rw [laws_markTeamS.l0, if_neg (by rw [marks_len _ hf l _ (Nat.le_refl _)]; omega), List.drop_length, List.append_nil]) (Ev.now _)
  · intro i hi h
    have hlen := marks_len _ hf l i (by omega)
    have hs := marks_set (fun i => marksTm i a) (fun i => markTm (a + 3 * (i : Int))) hf (fun i => marksTm_succ i a) l i hi
    have w1 : wrap64 (a + 3 * (i : Int) + 1) = a + 3 * i + 1 := wrap_id _ (by omega) (by omega)
    have w2 : wrap64 (a + 3 * (i : Int) + 1 + 1) = a + 3 * i + 2 := by rw [wrap_id _ (by omega) (by omega)]; omega
    have w3 : wrap64 (a + 3 * (i : Int) + 2 + 1) = a + 3 * ((i + 1 : Nat) : Int) := by rw [wrap_id _ (by omega) (by omega)]; omega
    refine Ev.step (f := fun k => (laws_markText.f k (a + 3 * (i : Int))).bind fun t => laws_markTeamS.l0 k ((marksTm i a ++ l.drop i).set i ⟨t, a + 3 * i + 1, a + 3 * i + 2⟩) (a + 3 * ((i + 1 : Nat) : Int)) ((i + 1 : Nat) : Int)) (fun k => ?_) (Ev.bind (markT_ev (by omega) (by omega)) ?_)
    · have hlt : i < (marksTm i a ++ l.drop i).length := by rw [hlen]; exact hi
      have h00 : (0 : Int) ≤ (i : Int) := by omega
      rw [laws_markTeamS.l0, if_pos (by rw [hlen]; omega)]
      congr 1
      funext t
      generalize marksTm i a ++ l.drop i = L at hlt
      simp only [if_pos h00, Option.bind_some, Int.toNat_natCast, w1, w2, w3, wrap_succ i (show i < 4611686018427387904 by omega), rdT_set _ _ _ hlt, List.set_set]
    · exact (show (marksTm i a ++ l.drop i).set i (markTm (a + 3 * (i : Int))) = _ from hs) ▸ h
theorem markGame_ev (l : List Game) (a : Int) (h0 : 0 < a) (hl : a + 5 * l.length ≤ 1000000000) : Ev (fun k => laws_markGameS.f k l a) (a + 5 * l.length, marksGm l.length a) := by
  have hf := fun i => marksGm_len i a
  refine Ev.loop l.length (fun i k => laws_markGameS.l0 k (marksGm i a ++ l.drop i) (a + 5 * i) (i : Int)) (fun _ => (a + 5 * l.length, marksGm l.length a)) (fun k => by rw [mul_zero_cast]; rfl) rfl ?_ ?_
  · exact Ev.step (f := fun _ => some (a + 5 * l.length, marksGm l.length a)) (fun k => by rw [laws_markGameS.l0, if_neg (by rw [marks_len _ hf l _ (Nat.le_refl _)]; omega), List.drop_length, List.append_nil]) (Ev.now _)
  · intro i hi h
    have hlen := marks_len _ hf l i (by omega)
    have hs := marks_set (fun i => marksGm i a) (fun i => markGm (a + 5 * (i : Int))) hf (fun i => marksGm_succ i a) l i hi
    have w1 : wrap64 (a + 5 * (i : Int) + 1) = a + 5 * i + 1 := wrap_id _ (by omega) (by omega)
    have w2 : wrap64 (a + 5 * (i : Int) + 1 + 1) = a + 5 * i + 2 := by rw [wrap_id _ (by omega) (by omega)]; omega
    have w3 : wrap64 (a + 5 * (i : Int) + 2 + 1) = a + 5 * i + 3 := by rw [wrap_id _ (by omega) (by omega)]; omega
    have w4 : wrap64 (a + 5 * (i : Int) + 3 + 1) = a + 5 * i + 4 := by rw [wrap_id _ (by omega) (by omega)]; omega
    have w5 : wrap64 (a + 5 * (i : Int) + 4 + 1) = a + 5 * ((i + 1 : Nat) : Int) := by rw [wrap_id _ (by omega) (by omega)]; omega
    refine Ev.step (f := fun k => laws_markGameS.l0 k ((marksGm i a ++ l.drop i).set i ⟨a + 5 * i, a + 5 * i + 1, a + 5 * i + 2, a + 5 * i + 3, a + 5 * i + 4⟩) (a + 5 * ((i + 1 : Nat) : Int)) ((i + 1 : Nat) : Int)) (fun k => ?_) ?_
    · have hlt : i < (marksGm i a ++ l.drop i).length := by rw [hlen]; exact hi
      have h00 : (0 : Int) ≤ (i : Int) := by omega
      rw [laws_markGameS.l0, if_pos (by rw [hlen]; omega)]
      generalize marksGm i a ++ l.drop i = L at hlt
      simp only [if_pos h00, Option.bind_some, Int.toNat_natCast, w1, w2, w3, w4, w5, wrap_succ i (show i < 4611686018427387904 by omega), rdG_set _ _ _ hlt, List.set_set]
    · exact (show (marksGm i a ++ l.drop i).set i (markGm (a + 5 * (i : Int))) = _ from hs) ▸ h
theorem marksTm_get (n : Nat) (a : Int) (i : Nat) (h : i < n) : (marksTm n a)[i]'(by rw [marksTm_len]; exact h) = markTm (a + 3 * i) := by simp [marksTm]
theorem marksGm_get (n : Nat) (a : Int) (i : Nat) (h : i < n) : (marksGm n a)[i]'(by rw [marksGm_len]; exact h) = markGm (a + 5 * i) := by simp [marksGm]
theorem heldTeam_ev (n : Nat) (a : Int) (h0 : 0 < a) (hl : a + 3 * n ≤ 1000000000) : Ev (fun k => laws_heldTeamS.f k (marksTm n a) a) (a + 3 * n) := by
  refine Ev.loop n (fun i k => laws_heldTeamS.l0 k (marksTm n a) (a + 3 * i) (i : Int)) (fun _ => a + 3 * n) (fun k => by rw [mul_zero_cast]; rfl) rfl ?_ ?_
  · exact Ev.step (f := fun _ => some (a + 3 * n)) (fun k => by rw [laws_heldTeamS.l0, if_neg (by rw [marksTm_len]; omega)]) (Ev.now _)
  · intro i hi h
    have w1 : wrap64 (a + 3 * (i : Int) + 1) = a + 3 * i + 1 := wrap_id _ (by omega) (by omega)
    have w2 : wrap64 (a + 3 * (i : Int) + 1 + 1) = a + 3 * i + 2 := by rw [wrap_id _ (by omega) (by omega)]; omega
    have w3 : wrap64 (a + 3 * (i : Int) + 2 + 1) = a + 3 * ((i + 1 : Nat) : Int) := by rw [wrap_id _ (by omega) (by omega)]; omega
    refine Ev.step (f := fun k => (laws_markText.f k (a + 3 * (i : Int))).bind fun t => if (markT (a + 3 * (i : Int))).toList = t.toList then laws_heldTeamS.l0 k (marksTm n a) (a + 3 * ((i + 1 : Nat) : Int)) ((i + 1 : Nat) : Int) else some (-1)) (fun k => ?_) (Ev.bind (markT_ev (by omega) (by omega)) (Ev.congr (fun k => by rw [if_pos rfl]) h))
    rw [laws_heldTeamS.l0, if_pos (by rw [marksTm_len]; omega), if_pos (by omega), rdT_eq _ i (by rw [marksTm_len]; omega), marksTm_get n a i hi]
    simp only [markTm, w1, w2, w3, if_true, wrap_succ i (show i < 4611686018427387904 by omega)]
theorem heldGame_ev (n : Nat) (a : Int) (h0 : 0 < a) (hl : a + 5 * n ≤ 1000000000) : Ev (fun k => laws_heldGameS.f k (marksGm n a) a) (a + 5 * n) := by
  refine Ev.loop n (fun i k => laws_heldGameS.l0 k (marksGm n a) (a + 5 * i) (i : Int)) (fun _ => a + 5 * n) (fun k => by rw [mul_zero_cast]; rfl) rfl ?_ ?_
  · exact Ev.step (f := fun _ => some (a + 5 * n)) (fun k => by rw [laws_heldGameS.l0, if_neg (by rw [marksGm_len]; omega)]) (Ev.now _)
  · intro i hi h
    have w1 : wrap64 (a + 5 * (i : Int) + 1) = a + 5 * i + 1 := wrap_id _ (by omega) (by omega)
    have w2 : wrap64 (a + 5 * (i : Int) + 1 + 1) = a + 5 * i + 2 := by rw [wrap_id _ (by omega) (by omega)]; omega
    have w3 : wrap64 (a + 5 * (i : Int) + 2 + 1) = a + 5 * i + 3 := by rw [wrap_id _ (by omega) (by omega)]; omega
    have w4 : wrap64 (a + 5 * (i : Int) + 3 + 1) = a + 5 * i + 4 := by rw [wrap_id _ (by omega) (by omega)]; omega
    have w5 : wrap64 (a + 5 * (i : Int) + 4 + 1) = a + 5 * ((i + 1 : Nat) : Int) := by rw [wrap_id _ (by omega) (by omega)]; omega
    refine Ev.step (fun k => ?_) h
    rw [laws_heldGameS.l0, if_pos (by rw [marksGm_len]; omega), if_pos (by omega), rdG_eq _ i (by rw [marksGm_len]; omega), marksGm_get n a i hi]
    simp only [markGm, w1, w2, w3, w4, w5, if_true, wrap_succ i (show i < 4611686018427387904 by omega)]
theorem toBook_ev (F : List TeamA) (w d s : Int) (L : List Int) (ag : Bool) (G : List GameA) (fa ta : List Int) (h1 : F.length ≤ 1048576) (h2 : L.length ≤ 1048576) (h3 : G.length ≤ 1048576) (h4 : fa.length ≤ 1048576) (h5 : ta.length ≤ 1048576) :
    Ev (fun k => laws_toBook.f k F w d s L ag G fa ta) (F.map convT, w, d, s, L, ag, G.map convG, fa, ta) := by
  unfold laws_toBook.f laws_toRules.f
  exact Ev.bind (toTeam_ev F h1) (Ev.bind (Ev.bind (toInt_ev L h2) (Ev.now (w, d, s, L, ag))) (Ev.bind (toGame_ev G h3) (Ev.bind (toInt_ev fa h4) (Ev.bind (toInt_ev ta h5) (Ev.now _)))))
theorem eqRules_ev (w d s : Int) (L : List Int) (ag : Bool) (h2 : L.length ≤ 1048576) : Ev (fun k => laws_eqRules.f k w d s L ag w d s L ag) true := by
  unfold laws_eqRules.f
  refine Ev.congr (fun k => by rw [if_pos rfl, if_pos rfl, if_pos rfl]) (Ev.bind (eqInt_ev L h2) (Ev.val fun k => ?_))
  simp
theorem eqBook_ev (F : List Team) (w d s : Int) (L : List Int) (ag : Bool) (G : List Game) (fa ta : List Int) (h1 : F.length ≤ 1048576) (h2 : L.length ≤ 1048576) (h3 : G.length ≤ 1048576) (h4 : fa.length ≤ 1048576) (h5 : ta.length ≤ 1048576) :
    Ev (fun k => laws_eqBook.f k F w d s L ag G fa ta F w d s L ag G fa ta) true := by
  unfold laws_eqBook.f
  refine Ev.bind (eqTeam_ev F h1) (Ev.congr (fun k => by rw [if_pos rfl]) (Ev.bind (eqRules_ev w d s L ag h2) (Ev.congr (fun k => by rw [if_pos rfl]) (Ev.bind (eqGame_ev G h3) (Ev.congr (fun k => by rw [if_pos rfl]) (Ev.bind (eqInt_ev fa h4) (Ev.congr (fun k => by rw [if_pos rfl]) (Ev.bind (eqInt_ev ta h5) (Ev.val fun k => by rw [if_pos rfl])))))))))
noncomputable def markBk (a : Int) (f l g x y : Nat) : Int × List Team × List Int × List Game × List Int × List Int :=
  (a + 3 * f + l + 5 * g + x + y, marksTm f a, marksI l (a + 3 * f), marksGm g (a + 3 * f + l), marksI x (a + 3 * f + l + 5 * g), marksI y (a + 3 * f + l + 5 * g + x))
theorem markBook_ev (F : List Team) (w d s : Int) (L : List Int) (ag : Bool) (G : List Game) (fa ta : List Int) (a : Int) (h0 : 0 < a) (ha : a ≤ 10000000) (h1 : F.length ≤ 1048576) (h2 : L.length ≤ 1048576) (h3 : G.length ≤ 1048576) (h4 : fa.length ≤ 1048576) (h5 : ta.length ≤ 1048576) :
    Ev (fun k => laws_markBook.f k F w d s L ag G fa ta a) (markBk a F.length L.length G.length fa.length ta.length) := by
  unfold laws_markBook.f laws_markRules.f
  refine Ev.bind (markTeam_ev F a h0 (by omega)) ?_
  refine Ev.bind (Ev.bind (markInt_ev L _ (by omega) (by omega)) (Ev.now (a + 3 * F.length + L.length, marksI L.length (a + 3 * F.length)))) ?_
  refine Ev.bind (markGame_ev G _ (by show 0 < a + 3 * (F.length : Int) + L.length; omega) (by show a + 3 * (F.length : Int) + L.length + 5 * G.length ≤ _; omega)) ?_
  refine Ev.bind (markInt_ev fa _ (by show 0 ≤ a + 3 * (F.length : Int) + L.length + 5 * G.length; omega) (by show a + 3 * (F.length : Int) + L.length + 5 * G.length + fa.length ≤ _; omega)) ?_
  refine Ev.bind (markInt_ev ta _ (by show 0 ≤ a + 3 * (F.length : Int) + L.length + 5 * G.length + fa.length; omega) (by show a + 3 * (F.length : Int) + L.length + 5 * G.length + fa.length + ta.length ≤ _; omega)) ?_
  exact Ev.now _
theorem heldBook_ev (w d s : Int) (ag : Bool) (a : Int) (h0 : 0 < a) (ha : a ≤ 10000000) (f l g x y : Nat) (h1 : f ≤ 1048576) (h2 : l ≤ 1048576) (h3 : g ≤ 1048576) (h4 : x ≤ 1048576) (h5 : y ≤ 1048576) :
    Ev (fun k => laws_heldBook.f k (markBk a f l g x y).2.1 w d s (markBk a f l g x y).2.2.1 ag (markBk a f l g x y).2.2.2.1 (markBk a f l g x y).2.2.2.2.1 (markBk a f l g x y).2.2.2.2.2 a) (markBk a f l g x y).1 := by
  unfold laws_heldBook.f laws_heldRules.f markBk
  refine Ev.bind (heldTeam_ev f a h0 (by omega)) (Ev.congr (fun k => by rw [if_neg (by omega)]) ?_)
  refine Ev.bind (Ev.bind (heldInt_ev l _ (by omega) (by omega)) (Ev.val fun k => by rw [if_neg (by omega)])) (Ev.congr (fun k => by rw [if_neg (by omega)]) ?_)
  refine Ev.bind (heldGame_ev g _ (by omega) (by omega)) (Ev.congr (fun k => by rw [if_neg (by omega)]) ?_)
  refine Ev.bind (heldInt_ev x _ (by omega) (by omega)) (Ev.congr (fun k => by rw [if_neg (by omega)]) ?_)
  exact Ev.bind (heldInt_ev y _ (by omega) (by omega)) (Ev.val fun k => by rw [if_neg (by omega)])
theorem markBk_pos (a : Int) (h0 : 0 < a) (f l g x y : Nat) : 0 < (markBk a f l g x y).1 := by
  unfold markBk
  show 0 < a + 3 * (f : Int) + l + 5 * g + x + y
  omega
theorem markBk_le (a : Int) (f l g x y : Nat) (h1 : f ≤ 1048576) (h2 : l ≤ 1048576) (h3 : g ≤ 1048576) (h4 : x ≤ 1048576) (h5 : y ≤ 1048576) (ha : a ≤ 1000) : (markBk a f l g x y).1 ≤ 20000000 := by
  unfold markBk
  show a + 3 * (f : Int) + l + 5 * g + x + y ≤ _
  omega
structure BkSmall (F : List TeamA) (L : List Int) (G : List GameA) (fa ta : List Int) : Prop where
  f : F.length ≤ 1048576
  n : ∀ t ∈ F, t.f0.size ≤ 1048576
  l : L.length ≤ 1048576
  g : G.length ≤ 1048576
  x : fa.length ≤ 1048576
  y : ta.length ≤ 1048576
theorem szTeam_ev (l : List TeamA) (hl : l.length ≤ 9223372036854775807) (hn : ∀ t ∈ l, t.f0.size ≤ 9223372036854775807) (x : Int) (h0 : 0 ≤ x) (h1 : x ≤ 1048576) : ∃ t, Ev (fun k => laws_szTeamS.f k l x) t ∧ (t < 0 ∨ 0 ≤ t ∧ t ≤ x ∧ l.length ≤ 1048576 ∧ ∀ r ∈ l, r.f0.size ≤ 1048576) := by
  have key : l.length ≤ 1048576 → ∀ (d i : Nat) (x : Int), i + d = l.length → 0 ≤ x → x ≤ 1048576 → ∃ t, Ev (fun k => laws_szTeamS.l0 k l x (i : Int)) t ∧ (t < 0 ∨ 0 ≤ t ∧ t ≤ x ∧ ∀ r ∈ l.drop i, r.f0.size ≤ 1048576) := by
    intro hl2 d
    induction d with
    | zero =>
      intro i x hi h0 h1
      refine ⟨x, Ev.step (f := fun _ => some x) (fun k => by rw [laws_szTeamS.l0, if_neg (by omega)]) (Ev.now _), .inr ⟨h0, Int.le_refl _, ?_⟩⟩
      rw [List.drop_eq_nil_of_le (by omega)]
      intro r hr; cases hr
    | succ d ih =>
      intro i x hi h0 h1
      have hlt : i < l.length := by omega
      have hm := hn l[i] (List.getElem_mem hlt)
      have hw : wrap64 (x - (l[i].f0.size : Int)) = x - l[i].f0.size := wrap_id _ (by omega) (by omega)
      by_cases h : x - (l[i].f0.size : Int) < 0
      · exact ⟨-1, Ev.step (f := fun _ => some (-1)) (fun k => by rw [laws_szTeamS.l0, if_pos (by omega), if_pos (by omega), rdTA_eq l i hlt, laws_szTeam.f, hw, if_pos h, Option.bind_some, if_pos (by decide)]) (Ev.now _), .inl (by decide)⟩
      · obtain ⟨t, e, ht⟩ := ih (i + 1) (x - l[i].f0.size) (by omega) (by omega) (by omega)
        refine ⟨t, Ev.step (fun k => by rw [laws_szTeamS.l0, if_pos (by omega), if_pos (by omega), rdTA_eq l i hlt, laws_szTeam.f, hw, if_neg h, Option.bind_some, if_neg h, wrap_succ i (by omega)]) e, ?_⟩
        rcases ht with ht | ⟨ht, ht2, hd⟩
        · exact .inl ht
        · refine .inr ⟨ht, by omega, ?_⟩
          rw [List.drop_eq_getElem_cons hlt]
          intro r hr
          rcases List.mem_cons.mp hr with rfl | hr
          · omega
          · exact hd r hr
  by_cases h : x - (l.length : Int) < 0
  · exact ⟨-1, Ev.congr (f := fun _ => some (-1)) (fun k => by unfold laws_szTeamS.f; rw [wrap_id _ (by omega) (by omega), if_pos h]) (Ev.now _), .inl (by decide)⟩
  · obtain ⟨t, e, ht⟩ := key (by omega) l.length 0 (x - l.length) (by omega) (by omega) (by omega)
    refine ⟨t, Ev.congr (fun k => by unfold laws_szTeamS.f; rw [wrap_id _ (by omega) (by omega), if_neg h]; rfl) e, ?_⟩
    rcases ht with ht | ⟨ht, ht2, hd⟩
    · exact .inl ht
    · exact .inr ⟨ht, by omega, by omega, by rw [List.drop_zero] at hd; exact hd⟩
theorem szGame_eq (r : List GameA) (x : Int) (h0 : 0 ≤ x) (h1 : x ≤ 1048576) (hr : r.length ≤ 9223372036854775807) : laws_szGameS.f r x = some (if x - r.length < 0 then -1 else x - r.length) := by
  unfold laws_szGameS.f
  rw [wrap_id _ (by omega) (by omega)]
  split <;> rfl
theorem szBook_ev (F : List TeamA) (w d s : Int) (L : List Int) (ag : Bool) (G : List GameA) (fa ta : List Int) (hf : F.length ≤ 9223372036854775807) (hn : ∀ t ∈ F, t.f0.size ≤ 9223372036854775807) (hl : L.length ≤ 9223372036854775807) (hg : G.length ≤ 9223372036854775807) (hx : fa.length ≤ 9223372036854775807) (hy : ta.length ≤ 9223372036854775807) :
    ∃ t, Ev (fun k => laws_szBook.f k F w d s L ag G fa ta 1048576) t ∧ (t < 0 ∨ 0 ≤ t ∧ t ≤ 1048576 ∧ BkSmall F L G fa ta) := by
  obtain ⟨t1, e1, c1⟩ := szTeam_ev F hf hn 1048576 (by decide) (by decide)
  have neg : ∀ {g : Nat → Option Int}, Ev g (-1) → ∃ t, Ev g t ∧ (t < 0 ∨ 0 ≤ t ∧ t ≤ 1048576 ∧ BkSmall F L G fa ta) := fun e => ⟨_, e, .inl (by decide)⟩
  unfold laws_szBook.f
  rcases c1 with c1 | ⟨c0, c2, c3, c4⟩
  · exact neg (Ev.bind e1 (Ev.val fun k => by rw [if_pos c1]))
  have r1 := szInt_eq L t1 c0 c2 (by omega)
  by_cases d1 : t1 - (L.length : Int) < 0
  · rw [if_pos d1] at r1
    exact neg (Ev.bind e1 (Ev.val fun k => by rw [if_neg (by omega), laws_szRules.f, r1, Option.bind_some, if_pos (by decide), Option.bind_some, if_pos (by decide)]))
  rw [if_neg d1] at r1
  have r2 := szGame_eq G (t1 - L.length) (by omega) (by omega) (by omega)
  by_cases d2 : t1 - (L.length : Int) - G.length < 0
  · rw [if_pos d2] at r2
    exact neg (Ev.bind e1 (Ev.val fun k => by rw [if_neg (by omega), laws_szRules.f, r1, Option.bind_some, if_neg d1, Option.bind_some, if_neg d1, r2, Option.bind_some, if_pos (by decide)]))
  rw [if_neg d2] at r2
  have r3 := szInt_eq fa (t1 - L.length - G.length) (by omega) (by omega) (by omega)
  by_cases d3 : t1 - (L.length : Int) - G.length - fa.length < 0
  · rw [if_pos d3] at r3
    exact neg (Ev.bind e1 (Ev.val fun k => by rw [if_neg (by omega), laws_szRules.f, r1, Option.bind_some, if_neg d1, Option.bind_some, if_neg d1, r2, Option.bind_some, if_neg d2, r3, Option.bind_some, if_pos (by decide)]))
  rw [if_neg d3] at r3
  have r4 := szInt_eq ta (t1 - L.length - G.length - fa.length) (by omega) (by omega) (by omega)
  by_cases d4 : t1 - (L.length : Int) - G.length - fa.length - ta.length < 0
  · rw [if_pos d4] at r4
    exact neg (Ev.bind e1 (Ev.val fun k => by rw [if_neg (by omega), laws_szRules.f, r1, Option.bind_some, if_neg d1, Option.bind_some, if_neg d1, r2, Option.bind_some, if_neg d2, r3, Option.bind_some, if_neg d3, r4, Option.bind_some, if_pos (by decide)]))
  rw [if_neg d4] at r4
  refine ⟨_, Ev.bind e1 (Ev.val fun k => by rw [if_neg (by omega), laws_szRules.f, r1, Option.bind_some, if_neg d1, Option.bind_some, if_neg d1, r2, Option.bind_some, if_neg d2, r3, Option.bind_some, if_neg d3, r4, Option.bind_some, if_neg d4]), .inr ⟨by omega, by omega, ⟨c3, c4, ?_, ?_, ?_, ?_⟩⟩⟩ <;> omega
def BkArg (F : List TeamA) (w d s : Int) (L : List Int) (G : List GameA) (fa ta : List Int) : Prop :=
  (F.length ≤ maxLen ∧ ∀ t ∈ F, t.f0.size ≤ maxLen ∧ (Lit.int .i64 t.f1).wf = true ∧ (Lit.int .i64 t.f2).wf = true) ∧
  ((Lit.int .i64 w).wf = true ∧ (Lit.int .i64 d).wf = true ∧ (Lit.int .i64 s).wf = true ∧ (L.length ≤ maxLen ∧ ∀ x ∈ L, (Lit.int .i64 x).wf = true) ∧ True) ∧
  (G.length ≤ maxLen ∧ ∀ g ∈ G, (Lit.int .i64 g.f0).wf = true ∧ (Lit.int .i64 g.f1).wf = true ∧ (Lit.int .i64 g.f2).wf = true ∧ (Lit.int .i64 g.f3).wf = true ∧ (Lit.int .i64 g.f4).wf = true) ∧
  (fa.length ≤ maxLen ∧ ∀ x ∈ fa, (Lit.int .i64 x).wf = true) ∧ (ta.length ≤ maxLen ∧ ∀ x ∈ ta, (Lit.int .i64 x).wf = true)
theorem szBook_arg (F : List TeamA) (w d s : Int) (L : List Int) (ag : Bool) (G : List GameA) (fa ta : List Int) (h : BkArg F w d s L G fa ta) :
    ∃ t, Ev (fun k => laws_szBook.f k F w d s L ag G fa ta 1048576) t ∧ (t < 0 ∨ 0 ≤ t ∧ t ≤ 1048576 ∧ BkSmall F L G fa ta) :=
  szBook_ev F w d s L ag G fa ta h.1.1 (fun t ht => (h.1.2 t ht).1) h.2.1.2.2.2.1.1 h.2.2.1.1 h.2.2.2.1.1 h.2.2.2.2.1
abbrev ProtA := S48
def convP (x : ProtA) : S50 := ⟨x.f0, x.f1, x.f2⟩
theorem rdPA_eq (l : List ProtA) (i : Nat) (h : i < l.length) : rd_T48 l (i : Int) = l[i] := by
  unfold rd_T48; simp [h]
theorem rdPr_eq (l : List S50) (i : Nat) (h : i < l.length) : rd_T50 l (i : Int) = l[i] := by
  unfold rd_T50; simp [h]
theorem rdPr_set (l : List S50) (i : Nat) (y : S50) (h : i < l.length) : rd_T50 (l.set i y) (i : Int) = y := by
  rw [rdPr_eq _ i (by simpa using h)]; simp
theorem toProt_ev (l : List ProtA) (hl : l.length ≤ 1048576) : Ev (fun k => laws_toProtestS.f k l) (l.map convP) := by
  refine Ev.loop l.length (fun i k => laws_toProtestS.l0 k l ((l.take i).map convP ++ List.replicate (l.length - i) z50) (i : Int)) (fun _ => l.map convP) (fun k => by unfold laws_toProtestS.f; rw [if_pos (by omega), if_pos (by omega)]; rfl) rfl ?_ ?_
  · exact Ev.step (f := fun _ => some (l.map convP)) (fun k => by rw [laws_toProtestS.l0, if_neg (by omega), List.take_length, Nat.sub_self]; simp) (Ev.now _)
  · intro i hi h
    refine Ev.step (fun k => ?_) h
    rw [laws_toProtestS.l0, if_pos (by omega), if_pos (by omega), rdPA_eq l i hi, laws_toProtest.f, Option.bind_some, if_pos (by simp; omega), wrap_succ i (by omega), Int.toNat_natCast, set_next convP z50 l i hi ⟨l[i].f0, l[i].f1, l[i].f2⟩ rfl]
theorem eqProt_ev (l : List S50) (hl : l.length ≤ 1048576) : Ev (fun k => laws_eqProtestS.f k l l) true := by
  refine Ev.loop l.length (fun i k => laws_eqProtestS.l0 k l l (i : Int)) (fun _ => true) (fun k => by unfold laws_eqProtestS.f; rw [if_pos rfl]; rfl) rfl ?_ ?_
  · exact Ev.step (f := fun _ => some true) (fun k => by rw [laws_eqProtestS.l0, if_neg (by omega)]) (Ev.now _)
  · intro i hi h
    exact Ev.step (fun k => by rw [laws_eqProtestS.l0, if_pos (by omega), if_pos (by omega), if_pos (by omega), laws_eqProtest.f, if_pos rfl, if_pos rfl, if_neg (by simp), Option.bind_some, if_pos rfl, wrap_succ i (by omega)]) h
theorem markProt_ev (n : Nat) (hn : n ≤ 1048576) (a : Int) (h0 : 0 ≤ a) (ha : a ≤ 1000000000) : ∀ (l : List S50), l.length = n → ∃ l2, Ev (fun k => laws_markProtestS.f k l a) (a + 3 * n, l2) := by
  have key : ∀ (d i : Nat) (l : List S50), i + d = n → l.length = n → ∃ l2, Ev (fun k => laws_markProtestS.l0 k l (a + 3 * i) (i : Int)) (a + 3 * n, l2) := by
    intro d
    induction d with
    | zero =>
      intro i l hi hl
      obtain rfl : i = n := by omega
      exact ⟨l, Ev.step (f := fun _ => some (a + 3 * i, l)) (fun k => by rw [laws_markProtestS.l0, if_neg (by omega)]) (Ev.now _)⟩
    | succ d ih =>
      intro i l hi hl
      have w1 : wrap64 (a + 3 * (i : Int) + 1) = a + 3 * i + 1 := wrap_id _ (by omega) (by omega)
      have w2 : wrap64 (a + 3 * (i : Int) + 1 + 1) = a + 3 * i + 2 := by rw [wrap_id _ (by omega) (by omega)]; omega
      have w3 : wrap64 (a + 3 * (i : Int) + 2 + 1) = a + 3 * ((i + 1 : Nat) : Int) := by rw [wrap_id _ (by omega) (by omega)]; omega
      obtain ⟨l2, e⟩ := ih (i + 1) (l.set i ⟨a + 3 * i, a + 3 * i + 1, Int.tmod (a + 3 * i + 2) 3 == 0⟩) (by omega) (by rw [List.length_set]; exact hl)
      refine ⟨l2, Ev.step (fun k => ?_) e⟩
      have hlt : i < l.length := by omega
      have h00 : (0 : Int) ≤ (i : Int) := by omega
      rw [laws_markProtestS.l0, if_pos (by omega)]
      simp only [if_pos h00, Option.bind_some, Int.toNat_natCast, w1, w2, w3, wrap_succ i (show i < 4611686018427387904 by omega), rdPr_set _ _ _ hlt, List.set_set]
  intro l hl
  obtain ⟨l2, e⟩ := key n 0 l (by omega) hl
  exact ⟨l2, Ev.congr (fun k => by unfold laws_markProtestS.f; rw [mul_zero_cast]; rfl) e⟩
theorem szProt_eq (r : List ProtA) (x : Int) (h0 : 0 ≤ x) (h1 : x ≤ 1048576) (hr : r.length ≤ 9223372036854775807) : laws_szProtestS.f r x = some (if x - r.length < 0 then -1 else x - r.length) := by
  unfold laws_szProtestS.f
  rw [wrap_id _ (by omega) (by omega)]
  split <;> rfl
theorem l01In_eq (a lo hi : Int) : spec_l01In.f a lo hi = some (withinB a lo hi) := by
  unfold spec_l01In.f withinB
  by_cases h : lo ≤ a <;> simp [h]
theorem sIsName_ev (s : ByteArray) (hs : s.size ≤ 4611686018427387903) : Ev (fun k => spec_IsName.f k s) (isNameB s) := by
  refine Ev.eq (Ev.down s.size (fun i k => spec_IsName.l0 k s (i : Int)) (fun i => nameFrom s i && withinB s.size 1 8) ?_ ?_) rfl
  · refine Ev.step (f := fun _ => some (withinB s.size 1 8)) (fun k => by rw [spec_IsName.l0, if_neg (by omega), l01In_eq]; rfl) (Ev.eq (Ev.now _) ?_)
    rw [nameFrom_end s _ (Nat.le_refl _)]
    rfl
  · intro i hi h
    have hw := wrap_succ i (by omega)
    cases hn : nameAt i (bt s i) with
    | true =>
      refine Ev.eq (Ev.step (fun k => ?_) h) (by simp only [nameFrom_step s i hi, hn, Bool.true_and])
      rw [spec_IsName.l0, if_pos (by omega), if_pos (by omega), hw]
      unfold nameAt at hn
      generalize bt s i = c at hn
      grind
    | false =>
      refine Ev.eq (Ev.step (f := fun _ => some false) (fun k => ?_) (Ev.now _)) (by simp only [nameFrom_step s i hi, hn, Bool.false_and])
      rw [spec_IsName.l0, if_pos (by omega), if_pos (by omega), hw]
      unfold nameAt at hn
      generalize bt s i = c at hn
      grind
theorem sTeamOk_ev (t : Team) (hs : t.f0.size ≤ 4611686018427387903) : Ev (fun k => spec_TeamOk.f k t.f0 t.f1 t.f2) (teamOkB t) := by
  unfold spec_TeamOk.f teamOkB
  refine Ev.bind (sIsName_ev _ hs) (Ev.val fun k => ?_)
  simp only [l01In_eq, Option.bind_some]
  cases isNameB t.f0 <;> cases withinB t.f1 0 5 <;> simp
theorem rdTm_eq (l : List Team) (i : Nat) (h : i < l.length) : rd_T139 l (i : Int) = l[i] := by
  unfold rd_T139; simp [h]
theorem sFieldOk_ev (l : List Team) (h : ∀ t, t ∈ l → t.f0.size ≤ 4611686018427387903) : Ev (fun k => spec_FieldOk.f k l) (fieldOkB l) := by
  unfold spec_FieldOk.f fieldOkB
  simp only [l01In_eq, Option.bind_some]
  cases hw : withinB (l.length : Int) 2 8 with
  | false => exact Ev.eq (Ev.val fun k => by rw [if_neg (by decide)]) (by simp)
  | true =>
    have hl : l.length ≤ 8 := by simp [withinB] at hw; omega
    refine Ev.congr (fun k => by rw [if_pos rfl]) ?_
    rw [Bool.and_true]
    refine Ev.eq (Ev.down l.length (fun i k => spec_FieldOk.l0 k l l (l.length : Int) (i : Int)) (fun i => fieldFrom (l.take i) (l.drop i)) ?_ ?_) rfl
    · exact Ev.step (f := fun _ => some true) (fun k => by rw [spec_FieldOk.l0, if_neg (by omega)]) (Ev.eq (Ev.now _) (by rw [List.drop_length]; rfl))
    · intro i hi hn
      rw [List.drop_eq_getElem_cons hi, fieldFrom]
      have ht := sTeamOk_ev l[i] (h _ (List.getElem_mem hi))
      refine Ev.step (f := fun k => (spec_TeamOk.f k l[i].f0 l[i].f1 l[i].f2).bind fun t130 => (if t130 = true then (spec_FieldOk.l1 k l l (l.length : Int) (i : Int) (l.take i) ((l.take i).length : Int) 0 l[i].f0 l[i].f1 l[i].f2) else (some false))) (fun k => ?_) (Ev.bind ht ?_)
      · rw [spec_FieldOk.l0, if_pos (by omega), if_pos (by omega), if_pos (by omega), rdTm_eq l i hi]
        have hc : (i : Int) ≤ (l.length : Int) := by omega
        simp only [if_pos hc, Option.bind_some, Int.toNat_natCast]
      · cases hk : teamOkB l[i] with
        | false => exact Ev.eq (Ev.val fun k => by rw [if_neg (by decide)]) (by simp)
        | true =>
          refine Ev.congr (fun k => by rw [if_pos rfl]) ?_
          rw [List.take_succ_eq_append_getElem hi] at hn
          generalize hp : l.take i = pre at hn
          have hpl : pre.length = i := by rw [← hp, List.length_take]; omega
          rw [Bool.true_and]
          refine Ev.eq (Ev.down pre.length (fun j k => spec_FieldOk.l1 k l l (l.length : Int) (i : Int) pre (pre.length : Int) (j : Int) l[i].f0 l[i].f1 l[i].f2) (fun j => !(pre.drop j).any (teamClash l[i]) && fieldFrom (pre ++ [l[i]]) (l.drop (i + 1))) ?_ ?_) rfl
          · refine Ev.eq (Ev.step (fun k => by rw [spec_FieldOk.l1, if_neg (by omega), wrap_succ i (by omega)]) hn) (by rw [List.drop_length]; simp)
          · intro j hj hnj
            rw [List.drop_eq_getElem_cons hj, List.any_cons]
            by_cases h1 : pre[j].f0.toList = l[i].f0.toList
            · refine Ev.eq (Ev.step (f := fun _ => some false) (fun k => by rw [spec_FieldOk.l1, if_pos (by omega), if_pos (by omega), if_pos (by omega), rdTm_eq pre j hj, if_pos h1]) (Ev.now _)) (by simp [teamClash, h1])
            · by_cases h2 : pre[j].f2 = l[i].f2
              · refine Ev.eq (Ev.step (f := fun _ => some false) (fun k => by rw [spec_FieldOk.l1, if_pos (by omega), if_pos (by omega), if_pos (by omega), rdTm_eq pre j hj, if_neg h1, if_pos h2]) (Ev.now _)) (by simp [teamClash, h2])
              · refine Ev.eq (Ev.step (fun k => by rw [spec_FieldOk.l1, if_pos (by omega), if_pos (by omega), if_pos (by omega), rdTm_eq pre j hj, if_neg h1, if_neg h2, wrap_succ j (by omega)]) hnj) (by rw [show teamClash l[i] pre[j] = false by unfold teamClash; rw [beq_eq_false_iff_ne.mpr h1, beq_eq_false_iff_ne.mpr h2]; rfl, Bool.false_or])
theorem sHas_ev (l : List Int) (x : Int) (hl : l.length ≤ 1048576) : Ev (fun k => spec_l02Has.f k l x) (hasI l x) := by
  refine Ev.eq (Ev.down l.length (fun i k => spec_l02Has.l0 k x l (l.length : Int) (i : Int)) (fun i => hasI (l.drop i) x) ?_ ?_) rfl
  · exact Ev.step (f := fun _ => some false) (fun k => by rw [spec_l02Has.l0, if_neg (by omega)]) (Ev.eq (Ev.now _) (by rw [List.drop_length]; rfl))
  · intro i hi hn
    rw [List.drop_eq_getElem_cons hi]
    by_cases h : l[i] = x
    · exact Ev.eq (Ev.step (f := fun _ => some true) (fun k => by rw [spec_l02Has.l0, if_pos (by omega), if_pos (by omega), if_pos (by omega), rd_eq l i hi, if_pos h]) (Ev.now _)) (by simp [hasI, h])
    · exact Ev.eq (Ev.step (fun k => by rw [spec_l02Has.l0, if_pos (by omega), if_pos (by omega), if_pos (by omega), rd_eq l i hi, if_neg h, wrap_succ i (by omega)]) hn) (by simp only [hasI, List.any_cons, decide_eq_false (show ¬ x = l[i] from fun e => h e.symm), Bool.false_or])
theorem sRulesOk_ev (win draw loss : Int) (l : List Int) (again : Bool) : Ev (fun k => spec_RulesOk.f k win draw loss l again) (rulesOkB win draw loss l) := by
  unfold spec_RulesOk.f rulesOkB
  simp only [l01In_eq, Option.bind_some]
  have fals : ∀ q, q = false → Ev (fun k => spec_RulesOk.j0 k true win draw loss l again) q := fun q hq => Ev.step (f := fun _ => some false) (fun k => by rw [spec_RulesOk.j0, if_pos rfl]) (Ev.eq (Ev.now _) hq.symm)
  by_cases h1 : withinB win 0 10 = true
  · by_cases h2 : withinB draw 0 win = true
    · by_cases h3 : withinB loss 0 draw = true
      · by_cases h4 : withinB l.length 1 8 = true
        · refine Ev.congr (fun k => by rw [if_pos h1, if_pos h2, if_pos h3, h4]) ?_
          have hl : l.length ≤ 8 := by simp [withinB] at h4; omega
          have hr : (ladderFrom [] l && decide (0 ≤ loss) && decide (loss ≤ draw) && decide (draw ≤ win) && decide (win ≤ 10) && true) = ladderFrom [] l := by
            simp [withinB] at h1 h2 h3
            simp [h1, h2, h3]
          rw [h4, hr]
          refine Ev.step (f := fun k => spec_RulesOk.l0 k l (l.length : Int) 0 win draw loss l again) (fun k => by rw [spec_RulesOk.j0, if_neg (by decide)]) ?_
          refine Ev.eq (Ev.down l.length (fun i k => spec_RulesOk.l0 k l (l.length : Int) (i : Int) win draw loss l again) (fun i => ladderFrom (l.take i) (l.drop i)) ?_ ?_) rfl
          · exact Ev.step (f := fun _ => some true) (fun k => by rw [spec_RulesOk.l0, if_neg (by omega)]) (Ev.eq (Ev.now _) (by rw [List.drop_length]; rfl))
          · intro i hi hn
            rw [List.drop_eq_getElem_cons hi, ladderFrom]
            rw [List.take_succ_eq_append_getElem hi] at hn
            cases hk : withinB l[i] 1 8 with
            | false => exact Ev.eq (Ev.step (f := fun _ => some false) (fun k => by rw [spec_RulesOk.l0, if_pos (by omega), if_pos (by omega), if_pos (by omega), rd_eq l i hi, l01In_eq, hk, Option.bind_some, if_neg (by decide)]) (Ev.now _)) (by simp)
            | true =>
              refine Ev.step (f := fun k => (spec_l02Has.f k (l.take i) l[i]).bind fun t => if t = true then some false else spec_RulesOk.l0 k l (l.length : Int) ((i + 1 : Nat) : Int) win draw loss l again) (fun k => by rw [spec_RulesOk.l0, if_pos (by omega), if_pos (by omega), if_pos (by omega), rd_eq l i hi, l01In_eq, hk, Option.bind_some, if_pos rfl, if_pos (by omega), wrap_succ i (by omega), Int.toNat_natCast]) ?_
              refine Ev.bind (sHas_ev _ _ (by rw [List.length_take]; omega)) ?_
              cases hh : hasI (l.take i) l[i] with
              | true => exact Ev.eq (Ev.val fun k => by rw [if_pos rfl]) (by simp)
              | false => exact Ev.eq (Ev.congr (fun k => by rw [if_neg (by decide)]) hn) (by simp)
        · refine Ev.congr (fun k => by rw [if_pos h1, if_pos h2, if_pos h3]) ?_
          simp only [Bool.not_eq_true] at h4
          rw [h4]
          exact fals _ (by simp)
      · refine Ev.congr (fun k => by rw [if_pos h1, if_pos h2, if_neg h3]) (fals _ ?_)
        simp [withinB] at h3
        by_cases h5 : 0 ≤ loss
        · simp [show ¬ loss ≤ draw by omega]
        · simp [h5]
    · refine Ev.congr (fun k => by rw [if_pos h1, if_neg h2]) (fals _ ?_)
      simp [withinB] at h2
      by_cases h5 : 0 ≤ draw
      · simp [show ¬ draw ≤ win by omega]
      · by_cases h6 : 0 ≤ loss
        · simp [show ¬ loss ≤ draw by omega]
        · simp [h6]
  · refine Ev.congr (fun k => by rw [if_neg h1]) (fals _ ?_)
    simp [withinB] at h1
    by_cases h5 : win ≤ 10
    · by_cases h6 : 0 ≤ loss
      · by_cases h7 : loss ≤ draw
        · simp [show ¬ draw ≤ win by omega]
        · simp [h7]
      · simp [h6]
    · simp [h5]
theorem sGameOk_ev (n : Int) (g : Game) : Ev (fun k => spec_GameOk.f k n g.f0 g.f1 g.f2 g.f3 g.f4) (gameOkB n g) := by
  unfold spec_GameOk.f gameOkB
  simp only [l01In_eq, Option.bind_some]
  have fals : ∀ q, q = false → Ev (fun k => spec_GameOk.j0 k true g.f0 g.f1 g.f2 g.f3 g.f4) q := fun q hq => Ev.step (f := fun _ => some false) (fun k => by rw [spec_GameOk.j0, if_pos rfl]) (Ev.eq (Ev.now _) hq.symm)
  by_cases h1 : withinB n 2 8 = true
  · have hw : wrap64 (n - 1) = n - 1 := by
      simp [withinB] at h1
      unfold wrap64; omega
    rw [hw, h1]
    by_cases h2 : withinB g.f0 0 (n - 1) = true
    · by_cases h3 : withinB g.f1 0 (n - 1) = true
      · by_cases h4 : g.f0 = g.f1
        · exact Ev.congr (fun k => by rw [if_pos rfl, if_pos h2, if_pos h3, if_pos h4]) (fals _ (by simp [h4]))
        · by_cases h5 : withinB g.f4 0 4 = true
          · refine Ev.congr (fun k => by rw [if_pos rfl, if_pos h2, if_pos h3, if_neg h4, h5]) ?_
            rw [h2, h3, h5, decide_eq_false h4]
            by_cases h6 : g.f4 = 1
            · refine Ev.step (f := fun _ => some (withinB g.f2 0 99 && withinB g.f3 0 99)) (fun k => ?_) (Ev.eq (Ev.now _) (by simp [h6]))
              rw [spec_GameOk.j0, if_neg (by decide), if_pos h6]
              simp only [l01In_eq, Option.bind_some]
              cases withinB g.f2 0 99 <;> simp
            · refine Ev.step (f := fun _ => some (decide (g.f2 = 0) && decide (g.f3 = 0))) (fun k => ?_) (Ev.eq (Ev.now _) ?_)
              · rw [spec_GameOk.j0, if_neg (by decide), if_neg h6]
                by_cases h7 : g.f2 = 0
                · rw [if_pos h7]; simp [h7]; grind
                · rw [if_neg h7]; simp [h7]
              · rw [if_neg h6]
                unfold withinB
                grind
          · refine Ev.congr (fun k => by rw [if_pos rfl, if_pos h2, if_pos h3, if_neg h4]) ?_
            simp only [Bool.not_eq_true] at h5
            rw [h5]
            exact fals _ (by simp)
      · exact Ev.congr (fun k => by rw [if_pos rfl, if_pos h2, if_neg h3]) (fals _ (by simp [Bool.not_eq_true _ ▸ h3]))
    · exact Ev.congr (fun k => by rw [if_pos rfl, if_neg h2]) (fals _ (by simp [Bool.not_eq_true _ ▸ h2]))
  · exact Ev.congr (fun k => by rw [if_neg h1]) (fals _ (by simp [Bool.not_eq_true _ ▸ h1]))
theorem sGameOf_ev (l : List Game) (h a : Int) (hl : l.length ≤ 1048576) : Ev (fun k => spec_GameOf.f k l h a) (idxI (gameIs h a) l) := by
  have hp : ∀ x : Int, x = -1 → ∀ y, (if y < 0 then (-1 : Int) else y) = (if y < 0 then -1 else y) := fun _ _ _ => rfl
  refine Ev.eq (Ev.down l.length (fun i k => spec_GameOf.l0 k h a l (l.length : Int) (i : Int)) (fun i => if idxI (gameIs h a) (l.drop i) < 0 then -1 else idxI (gameIs h a) (l.drop i) + i) ?_ ?_) ?_
  · exact Ev.step (f := fun _ => some (-1)) (fun k => by rw [spec_GameOf.l0, if_neg (by omega)]) (Ev.eq (Ev.now _) (by rw [List.drop_length]; rfl))
  · intro i hi hn
    rw [List.drop_eq_getElem_cons hi, idxI]
    by_cases h1 : l[i].f0 = h
    · by_cases h2 : l[i].f1 = a
      · exact Ev.eq (Ev.step (f := fun _ => some (i : Int)) (fun k => by rw [spec_GameOf.l0, if_pos (by omega), if_pos (by omega), if_pos (by omega), rdG_eq l i hi, if_pos h1, if_pos h2]) (Ev.now _)) (by simp [gameIs, h1, h2])
      · refine Ev.eq (Ev.step (fun k => by rw [spec_GameOf.l0, if_pos (by omega), if_pos (by omega), if_pos (by omega), rdG_eq l i hi, if_pos h1, if_neg h2, wrap_succ i (by omega)]) hn) ?_
        simp only [gameIs, h1, beq_self_eq_true, beq_eq_false_iff_ne.mpr h2, Bool.true_and, Bool.false_eq_true, if_false]
        generalize idxI (gameIs h a) (l.drop (i + 1)) = y
        grind
    · refine Ev.eq (Ev.step (fun k => by rw [spec_GameOf.l0, if_pos (by omega), if_pos (by omega), if_pos (by omega), rdG_eq l i hi, if_neg h1, wrap_succ i (by omega)]) hn) ?_
      have hg : gameIs h a l[i] = false := by simp [gameIs, h1]
      rw [hg]
      generalize idxI (gameIs h a) (l.drop (i + 1)) = y
      grind
  · show (if idxI (gameIs h a) l < 0 then (-1 : Int) else idxI (gameIs h a) l + ((0 : Nat) : Int)) = _
    have : ∀ l : List Game, idxI (gameIs h a) l = -1 ∨ 0 ≤ idxI (gameIs h a) l := by
      intro l
      induction l with
      | nil => exact .inl rfl
      | cons y l ih => simp only [idxI]; grind
    rcases this l with h3 | h3
    · rw [h3]; rfl
    · rw [if_neg (by omega)]; omega
theorem idx_first {α : Type} (p : α → Bool) (l : List α) (i : Nat) (hi : i < l.length) (h : p l[i] = true) : decide (idxI p l = (i : Int)) = !(l.take i).any p := by
  induction l generalizing i with
  | nil => simp at hi
  | cons x l ih =>
    cases i with
    | zero => simp only [List.getElem_cons_zero] at h; simp [idxI, h]
    | succ i =>
      simp only [List.getElem_cons_succ] at h
      have := ih i (by simpa using hi) h
      simp only [List.take_succ_cons, List.any_cons]
      by_cases hx : p x = true
      · have e1 : idxI p (x :: l) = 0 := by simp only [idxI, hx, if_true]
        rw [hx, Bool.true_or, e1]
        exact decide_eq_false (by omega)
      · simp only [Bool.not_eq_true] at hx
        have h2 : 0 ≤ idxI p l := by
          have := idxI_any p l
          have h3 : l.any p = true := List.any_eq_true.mpr ⟨l[i]'(by simpa using hi), List.getElem_mem _, h⟩
          rw [h3] at this
          simpa using this
        have e : (if p x = true then 0 else if idxI p l < 0 then -1 else idxI p l + 1) = idxI p l + 1 := by
          rw [if_neg (by rw [hx]; decide), if_neg (by omega)]
        have e2 : decide (idxI p l + 1 = ((i + 1 : Nat) : Int)) = decide (idxI p l = (i : Int)) := decide_eq_decide.mpr (by omega)
        have e3 : decide (idxI p (x :: l) = ((i + 1 : Nat) : Int)) = decide (idxI p l + 1 = ((i + 1 : Nat) : Int)) := decide_eq_decide.mpr (by rw [show idxI p (x :: l) = idxI p l + 1 from e])
        rw [hx, Bool.false_or, ← this, ← e2]
        exact e3
theorem sSeasonOk_ev (n : Int) (l : List Game) : Ev (fun k => spec_SeasonOk.f k n l) (seasonOkB n l) := by
  unfold spec_SeasonOk.f seasonOkB
  by_cases hl : (l.length : Int) > 60
  · exact Ev.eq (Ev.val fun k => by rw [if_pos hl]) (by simp; intro _; omega)
  · refine Ev.congr (fun k => by rw [if_neg hl]) ?_
    rw [decide_eq_true (show (l.length : Int) ≤ 60 by omega), Bool.and_true]
    refine Ev.eq (Ev.down l.length (fun i k => spec_SeasonOk.l0 k n l l (l.length : Int) (i : Int)) (fun i => seasonFrom n (l.take i) (l.drop i)) ?_ ?_) rfl
    · exact Ev.step (f := fun _ => some true) (fun k => by rw [spec_SeasonOk.l0, if_neg (by omega)]) (Ev.eq (Ev.now _) (by rw [List.drop_length]; rfl))
    · intro i hi hn
      rw [List.drop_eq_getElem_cons hi, seasonFrom]
      rw [List.take_succ_eq_append_getElem hi] at hn
      refine Ev.step (f := fun k => (spec_GameOk.f k n l[i].f0 l[i].f1 l[i].f2 l[i].f3 l[i].f4).bind fun t158 => (if t158 = true then ((spec_GameOf.f k l l[i].f0 l[i].f1).bind fun t159 => (if t159 = (i : Int) then (spec_SeasonOk.l0 k n l l (l.length : Int) ((i + 1 : Nat) : Int)) else (some false))) else (some false))) (fun k => by rw [spec_SeasonOk.l0, if_pos (by omega), if_pos (by omega), if_pos (by omega), rdG_eq l i hi, wrap_succ i (by omega)]) ?_
      refine Ev.bind (sGameOk_ev n l[i]) ?_
      cases hg : gameOkB n l[i] with
      | false => exact Ev.eq (Ev.val fun k => by rw [if_neg (by decide)]) (by simp)
      | true =>
        refine Ev.congr (fun k => by rw [if_pos rfl]) (Ev.bind (sGameOf_ev l _ _ (by omega)) ?_)
        have hf := idx_first (gameIs l[i].f0 l[i].f1) l i hi (by simp [gameIs])
        by_cases he : idxI (gameIs l[i].f0 l[i].f1) l = (i : Int)
        · rw [decide_eq_true he] at hf
          exact Ev.eq (Ev.congr (fun k => by rw [if_pos he]) hn) (by rw [← hf]; simp)
        · rw [decide_eq_false he] at hf
          exact Ev.eq (Ev.val fun k => by rw [if_neg he]) (by rw [← hf]; simp)
theorem sBookOk_ev (field : List Team) (win draw loss : Int) (ladder : List Int) (again : Bool) (games : List Game) (fair taken : List Int) (hs : ∀ t, t ∈ field → t.f0.size ≤ 4611686018427387903) :
    Ev (fun k => spec_BookOk.f k field win draw loss ladder again games fair taken) (bookOkB field win draw loss ladder games fair taken) := by
  unfold spec_BookOk.f bookOkB
  have fals : ∀ q, q = false → Ev (fun k => spec_BookOk.j0 k true field win draw loss ladder again games fair taken) q := fun q hq => Ev.step (f := fun _ => some false) (fun k => by rw [spec_BookOk.j0, if_pos rfl]) (Ev.eq (Ev.now _) hq.symm)
  refine Ev.bind (sFieldOk_ev field hs) ?_
  cases h1 : fieldOkB field with
  | false => exact Ev.congr (fun k => by rw [if_neg (by decide)]) (fals _ (by simp))
  | true =>
    have hfl : field.length ≤ 8 := by
      unfold fieldOkB at h1
      simp [withinB] at h1
      omega
    refine Ev.congr (fun k => by rw [if_pos rfl]) (Ev.bind (sRulesOk_ev _ _ _ _ _) ?_)
    cases h2 : rulesOkB win draw loss ladder with
    | false => exact Ev.congr (fun k => by rw [if_neg (by decide)]) (fals _ (by simp))
    | true =>
      refine Ev.congr (fun k => by rw [if_pos rfl]) (Ev.bind (sSeasonOk_ev _ _) ?_)
      cases h3 : seasonOkB field.length games with
      | false => exact Ev.congr (fun k => by rw [if_neg (by decide)]) (fals _ (by simp))
      | true =>
        by_cases h4 : (fair.length : Int) = (field.length : Int)
        · by_cases h5 : (taken.length : Int) = (field.length : Int)
          · refine Ev.congr (f := fun k => spec_BookOk.j0 k false field win draw loss ladder again games fair taken) (fun k => by rw [if_pos rfl, if_pos h4, show ((taken.length : Int) != (field.length : Int)) = false by simp; omega]) ?_
            refine Ev.step (f := fun k => spec_BookOk.l0 k (field.length : Int) 0 field win draw loss ladder again games fair taken) (fun k => by rw [spec_BookOk.j0, if_neg (by decide)]) ?_
            refine Ev.eq (Ev.down field.length (fun i k => spec_BookOk.l0 k (field.length : Int) (i : Int) field win draw loss ladder again games fair taken) (fun i => !(fair.drop i).any (fun x => !withinB x 0 1000) && !(taken.drop i).any (fun x => !withinB x 0 1000)) ?_ ?_) ?_
            · exact Ev.step (f := fun _ => some true) (fun k => by rw [spec_BookOk.l0, if_neg (by omega)]) (Ev.eq (Ev.now _) (by rw [List.drop_eq_nil_of_le (by omega), List.drop_eq_nil_of_le (by omega)]; rfl))
            · intro i hi hn
              rw [List.drop_eq_getElem_cons (show i < fair.length by omega), List.drop_eq_getElem_cons (show i < taken.length by omega)]
              cases ha : withinB fair[i] 0 1000 with
              | false => exact Ev.eq (Ev.step (f := fun _ => some false) (fun k => by rw [spec_BookOk.l0, if_pos (by omega), if_pos (by omega), if_pos (by omega), rd_eq fair i (by omega), l01In_eq, ha, Option.bind_some, if_neg (by decide)]) (Ev.now _)) (by rw [List.any_cons, List.any_cons, ha]; rfl)
              | true =>
                cases hb : withinB taken[i] 0 1000 with
                | false => exact Ev.eq (Ev.step (f := fun _ => some false) (fun k => by rw [spec_BookOk.l0, if_pos (by omega), if_pos (by omega), if_pos (by omega), rd_eq fair i (by omega), l01In_eq, ha, Option.bind_some, if_pos rfl, if_pos (by omega), rd_eq taken i (by omega), l01In_eq, hb, Option.bind_some, if_neg (by decide)]) (Ev.now _)) (by rw [List.any_cons, List.any_cons, ha, hb]; exact Bool.and_false _ |>.symm)
                | true => exact Ev.eq (Ev.step (fun k => by rw [spec_BookOk.l0, if_pos (by omega), if_pos (by omega), if_pos (by omega), rd_eq fair i (by omega), l01In_eq, ha, Option.bind_some, if_pos rfl, if_pos (by omega), rd_eq taken i (by omega), l01In_eq, hb, Option.bind_some, if_pos rfl, wrap_succ i (by omega)]) hn) (by rw [List.any_cons, List.any_cons, ha, hb]; exact (by simp))
            · simp [penaltiesB, h4, h5]
          · refine Ev.congr (f := fun k => spec_BookOk.j0 k true field win draw loss ladder again games fair taken) (fun k => by rw [if_pos rfl, if_pos h4, show ((taken.length : Int) != (field.length : Int)) = true by simp; omega]) (fals _ (by simp [penaltiesB, h5]))
        · exact Ev.congr (fun k => by rw [if_pos rfl, if_neg h4]) (fals _ (by simp [penaltiesB, h4]))
end Go.Proofs.Ythfefanapneocaa.Q
namespace Go.Proofs.Ythfefanapneocaa.Q
open Go.RowKit Go.Proofs.YthfefanapneocaaW.PrintWords Go.Proofs.YthfefanapneocaaW.PrintLast Go.Proofs.YthfefanapneocaaW.PrintMore
section
variable (F : List Team) (w d s : Int) (L : List Int) (ag : Bool) (fa ta : List Int)
theorem iCopied_eq (G : List Game) (h1 : F.length ≤ 1048576) (h2 : L.length ≤ 1048576) (h3 : G.length ≤ 1048576) (h4 : fa.length ≤ 1048576) (h5 : ta.length ≤ 1048576) : impl_Book_copied.f F w d s L ag G fa ta = some (F, w, d, s, L, ag, G, fa, ta) := by
  unfold impl_Book_copied.f slices_Clone_impl_Team_impl_Team.f slices_Clone_impl_Game_impl_Game.f slices_Clone_int_int.f
  simp only [Option.bind_some, List.length_nil, List.nil_append]
  rw [if_pos (by omega), Option.bind_some, if_pos (by omega), Option.bind_some, if_pos (by omega), Option.bind_some, if_pos (by omega), Option.bind_some, if_pos (by omega), Option.bind_some]
theorem sCopy_eq (G : List Game) (h1 : F.length ≤ 1048576) (h2 : L.length ≤ 1048576) (h3 : G.length ≤ 1048576) (h4 : fa.length ≤ 1048576) (h5 : ta.length ≤ 1048576) : spec_l16Copy.f F w d s L ag G fa ta = some (F, w, d, s, L, ag, G, fa, ta) := by
  unfold spec_l16Copy.f
  simp only [Option.bind_some, List.length_nil, List.nil_append]
  rw [if_pos (by omega), if_pos (by omega), if_pos (by omega), if_pos (by omega), if_pos (by omega)]
end
end Go.Proofs.Ythfefanapneocaa.Q
namespace Go.Proofs.Ythfefanapneocaa.Q
open Go.RowKit Go.Proofs.YthfefanapneocaaW.PrintWords Go.Proofs.YthfefanapneocaaW.PrintLast Go.Proofs.YthfefanapneocaaW.PrintMore
theorem seasonFrom_mem (n : Int) (l : List Game) : ∀ pre, seasonFrom n pre l = true → ∀ g ∈ l, gameOkB n g = true := by
  induction l with
  | nil => intro _ _ g hg; cases hg
  | cons x l ih =>
    intro pre h g hg
    rw [seasonFrom, Bool.and_eq_true, Bool.and_eq_true] at h
    rcases List.mem_cons.mp hg with rfl | hg
    · exact h.1.1
    · exact ih _ h.2 g hg
theorem gameOk_ne {n : Int} {g : Game} (h : gameOkB n g = true) : g.f0 ≠ g.f1 := by
  unfold gameOkB at h
  simp only [Bool.and_eq_true, Bool.not_eq_true', decide_eq_false_iff_not] at h
  exact h.1.1.1.1.1.2
def award (g : Game) (team : Int) : Game := ⟨g.f0, g.f1, 0, 0, if g.f0 = team then 2 else 3⟩
theorem sAward_eq (g : Game) (t : Int) : spec_l21Award.f g.f0 g.f1 g.f2 g.f3 g.f4 t = some ((award g t).f0, (award g t).f1, (award g t).f2, (award g t).f3, (award g t).f4) := by
  unfold spec_l21Award.f award
  split <;> rfl
theorem iAward_eq (g : Game) (t : Int) (hn : g.f0 ≠ g.f1) (ht : g.f0 = t ∨ g.f1 = t) : impl_awarded.f g.f0 g.f1 g.f2 g.f3 g.f4 t = some ((award g t).f0, (award g t).f1, (award g t).f2, (award g t).f3, (award g t).f4) := by
  unfold impl_awarded.f award
  by_cases h : g.f1 = t
  · rw [if_pos h, if_neg (show ¬ g.f0 = t by rw [← h]; exact hn)]
  · rw [if_neg h, if_pos (ht.resolve_right h)]
abbrev Prot := S50
theorem rdP_eq (l : List Prot) (i : Nat) (h : i < l.length) : rd_T50 l (i : Int) = l[i] := by
  unfold rd_T50; simp [h]
def protOkB (G : List Game) (p : Prot) : Bool := withinB p.f1 0 ((G.length : Int) - 1) && (withinB (G.getD p.f1.toNat z95).f4 1 3 && (decide ((G.getD p.f1.toNat z95).f0 = p.f0) || decide ((G.getD p.f1.toNat z95).f1 = p.f0)))
def decideL (G0 : List Game) : List Prot → List Game → Option (List Game)
  | [], G => some G
  | p :: ps, G => if protOkB G0 p then decideL G0 ps (G.set p.f1.toNat (if p.f2 then award (G0.getD p.f1.toNat z95) p.f0 else G0.getD p.f1.toNat z95)) else none
theorem decideL_len (G0 : List Game) (ps : List Prot) : ∀ G G2, decideL G0 ps G = some G2 → G2.length = G.length := by
  induction ps with
  | nil => intro G G2 h; rw [decideL] at h; injection h with h; rw [h]
  | cons p ps ih =>
    intro G G2 h
    rw [decideL] at h
    split at h
    · rw [ih _ _ h, List.length_set]
    · cases h
section
variable (F : List Team) (w d s : Int) (L : List Int) (ag : Bool) (fa ta : List Int) (G0 : List Game)
theorem sProtOk_ev (hn : ∀ t ∈ F, t.f0.size ≤ 1048576) (hg : G0.length ≤ 1048576) (p : Prot) : Ev (fun k => spec_ProtestOk.f k F w d s L ag G0 fa ta p.f0 p.f1 p.f2) (bookOkB F w d s L G0 fa ta && protOkB G0 p) := by
  unfold spec_ProtestOk.f protOkB
  refine Ev.bind (sBookOk_ev F w d s L ag G0 fa ta (fun t ht => Nat.le_trans (hn t ht) (by decide))) ?_
  cases bookOkB F w d s L G0 fa ta with
  | false => exact Ev.val fun k => by rw [if_neg (by decide)]; rfl
  | true =>
    refine Ev.val fun k => ?_
    rw [if_pos rfl, l01In_eq, Option.bind_some, wrap_id _ (by omega) (by omega), Bool.true_and]
    cases hw : withinB p.f1 0 ((G0.length : Int) - 1) with
    | false => rw [if_neg (by decide)]; rfl
    | true =>
      have hb : 0 ≤ p.f1 ∧ p.f1 < (G0.length : Int) := by simp [withinB] at hw; omega
      obtain ⟨j, hj⟩ := Int.eq_ofNat_of_zero_le hb.1
      have hjl : j < G0.length := by omega
      rw [if_pos rfl, if_pos hb.1, if_pos hb.2, hj, rdG_eq G0 j hjl, Int.toNat_natCast, List.getD_eq_getElem?_getD, List.getElem?_eq_getElem hjl, Option.getD_some, Bool.true_and]
      generalize G0[j] = g
      have hq : (if g.f0 = p.f0 then some true else some (g.f1 == p.f0)) = some (decide (g.f0 = p.f0) || decide (g.f1 = p.f0)) := by
        by_cases h0 : g.f0 = p.f0
        · rw [if_pos h0, decide_eq_true h0]; rfl
        · rw [if_neg h0, decide_eq_false h0, Bool.false_or]; rfl
      rw [hq]
      by_cases h1 : g.f4 = 1
      · rw [if_pos h1, h1]; rfl
      · by_cases h2 : g.f4 = 2
        · rw [if_neg h1, if_pos h2, h2]; rfl
        · by_cases h3 : g.f4 = 3
          · rw [if_neg h1, if_neg h2, if_pos h3, h3]; rfl
          · have hw4 : withinB g.f4 1 3 = false := by
              unfold withinB
              by_cases h4 : 1 ≤ g.f4
              · rw [decide_eq_false (show ¬ g.f4 ≤ 3 by omega), Bool.and_false]
              · rw [decide_eq_false h4, Bool.false_and]
            rw [if_neg h1, if_neg h2, if_neg h3, hw4]; rfl
theorem iProtOk_ev (hn : ∀ t ∈ F, t.f0.size ≤ 1048576) (hl : L.length ≤ 1048576) (hg : G0.length ≤ 1048576) (p : Prot) : Ev (fun k => impl_ProtestOk.f k F w d s L ag G0 fa ta p.f0 p.f1 p.f2) (bookOkB F w d s L G0 fa ta && protOkB G0 p) := by
  unfold impl_ProtestOk.f protOkB
  refine Ev.bind (Ev.from _ (bookOk_eq F w d s L ag G0 fa ta ⟨fun t ht => Nat.le_trans (hn t ht) (by decide), by omega, by omega⟩)) ?_
  cases bookOkB F w d s L G0 fa ta with
  | false => exact Ev.val fun k => by rw [if_neg (by decide)]; rfl
  | true =>
    refine Ev.val fun k => ?_
    rw [if_pos rfl, within_eq, Option.bind_some, wrap_id _ (by omega) (by omega), Bool.true_and]
    cases hw : withinB p.f1 0 ((G0.length : Int) - 1) with
    | false => rw [if_neg (by decide)]; rfl
    | true =>
      have hb : 0 ≤ p.f1 ∧ p.f1 < (G0.length : Int) := by simp [withinB] at hw; omega
      obtain ⟨j, hj⟩ := Int.eq_ofNat_of_zero_le hb.1
      have hjl : j < G0.length := by omega
      rw [if_pos rfl, if_pos hb.1, if_pos hb.2, hj, rdG_eq G0 j hjl, Int.toNat_natCast, List.getD_eq_getElem?_getD, List.getElem?_eq_getElem hjl, Option.getD_some, Bool.true_and, within_eq, Option.bind_some, impl_plays.f]
      generalize G0[j] = g
      cases withinB g.f4 1 3 with
      | false => rfl
      | true => grind
def decided (ps : List Prot) : List Team × Int × Int × Int × List Int × Bool × List Game × List Int × List Int × Bool :=
  match (if bookOkB F w d s L G0 fa ta && decide (ps.length ≤ 6) then decideL G0 ps G0 else none) with
  | some G => (F, w, d, s, L, ag, G, fa, ta, true)
  | none => ([], 0, 0, 0, [], false, [], [], [], false)
def resL (o : Option (List Game)) : List Team × Int × Int × Int × List Int × Bool × List Game × List Int × List Int × Bool :=
  match o with
  | some G => (F, w, d, s, L, ag, G, fa, ta, true)
  | none => ([], 0, 0, 0, [], false, [], [], [], false)
theorem protOkB_idx {p : Prot} (h : protOkB G0 p = true) : ∃ j : Nat, p.f1 = (j : Int) ∧ j < G0.length := by
  unfold protOkB at h
  simp [withinB] at h
  obtain ⟨j, hj⟩ := Int.eq_ofNat_of_zero_le h.1.1
  exact ⟨j, hj, by omega⟩
theorem protOkB_team {p : Prot} (h : protOkB G0 p = true) : (G0.getD p.f1.toNat z95).f0 = p.f0 ∨ (G0.getD p.f1.toNat z95).f1 = p.f0 := by
  unfold protOkB at h
  simp only [Bool.and_eq_true, Bool.or_eq_true, decide_eq_true_eq] at h
  exact h.2.2
theorem sDecide_loop (hn : ∀ t ∈ F, t.f0.size ≤ 1048576) (hg : G0.length ≤ 1048576) (hb : bookOkB F w d s L G0 fa ta = true) (ps : List Prot) (hp : ps.length ≤ 1048576) : ∀ (d0 i : Nat) (G : List Game), i + d0 = ps.length → G.length = G0.length →
    Ev (fun k => spec_Decide.l0 k ps (ps.length : Int) (i : Int) F w d s L ag G0 fa ta F w d s L ag G fa ta) (resL F w d s L ag fa ta (decideL G0 (ps.drop i) G)) := by
  intro d0
  induction d0 with
  | zero =>
    intro i G hi hG
    rw [List.drop_eq_nil_of_le (by omega), decideL]
    exact Ev.step (f := fun _ => some (F, w, d, s, L, ag, G, fa, ta, true)) (fun k => by rw [spec_Decide.l0, if_neg (by omega)]) (Ev.now _)
  | succ d0 ih =>
    intro i G hi hG
    have hlt : i < ps.length := by omega
    have hpo := sProtOk_ev F w d s L ag fa ta G0 hn hg ps[i]
    rw [hb, Bool.true_and] at hpo
    rw [List.drop_eq_getElem_cons hlt, decideL]
    cases ho : protOkB G0 ps[i] with
    | false =>
      rw [ho] at hpo
      rw [if_neg (by decide)]
      refine Ev.step (fun k => by rw [spec_Decide.l0, if_pos (by omega), if_pos (by omega), if_pos (by omega), rdP_eq ps i hlt]) (Ev.bind hpo ?_)
      exact Ev.val fun k => by rw [if_neg (by decide)]; rfl
    | true =>
      rw [ho] at hpo
      rw [if_pos rfl]
      obtain ⟨j, hj, hjl⟩ := protOkB_idx G0 ho
      have next := ih (i + 1) (G.set j (if ps[i].f2 then award G0[j] ps[i].f0 else G0[j])) (by omega) (by rw [List.length_set]; exact hG)
      have hgd : G0.getD ps[i].f1.toNat z95 = G0[j] := by rw [hj, Int.toNat_natCast, List.getD_eq_getElem?_getD, List.getElem?_eq_getElem hjl, Option.getD_some]
      rw [hgd, hj, Int.toNat_natCast]
      refine Ev.step (fun k => by rw [spec_Decide.l0, if_pos (by omega), if_pos (by omega), if_pos (by omega), rdP_eq ps i hlt]) (Ev.bind hpo ?_)
      refine Ev.congr (fun k => ?_) next
      rw [if_pos rfl, hj, if_pos (show (0 : Int) ≤ (j : Int) by omega), if_pos (show (j : Int) < (G0.length : Int) by omega), rdG_eq G0 j hjl, sAward_eq, Option.bind_some, if_pos (show (j : Int) < (G.length : Int) by omega), if_pos (show (0 : Int) ≤ (j : Int) by omega), if_pos (show (j : Int) < (G0.length : Int) by omega), if_pos (show (j : Int) < (G.length : Int) by omega), wrap_succ i (by omega), Int.toNat_natCast]
      cases ps[i].f2 <;> rfl
theorem iDecide_loop (hn : ∀ t ∈ F, t.f0.size ≤ 1048576) (hl : L.length ≤ 1048576) (hg : G0.length ≤ 1048576) (hb : bookOkB F w d s L G0 fa ta = true) (ps : List Prot) (hp : ps.length ≤ 1048576) : ∀ (d0 i : Nat) (G : List Game), i + d0 = ps.length → G.length = G0.length →
    Ev (fun k => impl_Decide.l0 k ps (ps.length : Int) (i : Int) F w d s L ag G0 fa ta F w d s L ag G fa ta) (resL F w d s L ag fa ta (decideL G0 (ps.drop i) G)) := by
  have hne : ∀ g ∈ G0, g.f0 ≠ g.f1 := by
    intro g h
    unfold bookOkB seasonOkB at hb
    simp only [Bool.and_eq_true] at hb
    exact gameOk_ne (seasonFrom_mem _ G0 [] hb.1.1.2.1 g h)
  intro d0
  induction d0 with
  | zero =>
    intro i G hi hG
    rw [List.drop_eq_nil_of_le (by omega), decideL]
    exact Ev.step (f := fun _ => some (F, w, d, s, L, ag, G, fa, ta, true)) (fun k => by rw [impl_Decide.l0, if_neg (by omega)]) (Ev.now _)
  | succ d0 ih =>
    intro i G hi hG
    have hlt : i < ps.length := by omega
    have hpo := iProtOk_ev F w d s L ag fa ta G0 hn hl hg ps[i]
    rw [hb, Bool.true_and] at hpo
    rw [List.drop_eq_getElem_cons hlt, decideL]
    cases ho : protOkB G0 ps[i] with
    | false =>
      rw [ho] at hpo
      rw [if_neg (by decide)]
      refine Ev.step (fun k => by rw [impl_Decide.l0, if_pos (by omega), if_pos (by omega), if_pos (by omega), rdP_eq ps i hlt]) (Ev.bind hpo ?_)
      exact Ev.val fun k => by rw [if_neg (by decide)]; rfl
    | true =>
      rw [ho] at hpo
      rw [if_pos rfl]
      obtain ⟨j, hj, hjl⟩ := protOkB_idx G0 ho
      have next := ih (i + 1) (G.set j (if ps[i].f2 then award G0[j] ps[i].f0 else G0[j])) (by omega) (by rw [List.length_set]; exact hG)
      have hgd : G0.getD ps[i].f1.toNat z95 = G0[j] := by rw [hj, Int.toNat_natCast, List.getD_eq_getElem?_getD, List.getElem?_eq_getElem hjl, Option.getD_some]
      have hteam := protOkB_team G0 ho
      rw [hgd] at hteam
      have hA := iAward_eq G0[j] ps[i].f0 (hne _ (List.getElem_mem hjl)) hteam
      rw [hgd, hj, Int.toNat_natCast]
      refine Ev.step (fun k => by rw [impl_Decide.l0, if_pos (by omega), if_pos (by omega), if_pos (by omega), rdP_eq ps i hlt]) (Ev.bind hpo ?_)
      refine Ev.congr (fun k => ?_) next
      rw [if_pos rfl, hj, if_pos (show (0 : Int) ≤ (j : Int) by omega), if_pos (show (j : Int) < (G0.length : Int) by omega), if_pos (show (j : Int) < (G.length : Int) by omega), rdG_eq G0 j hjl, hA, Option.bind_some, wrap_succ i (by omega), Int.toNat_natCast]
      cases ps[i].f2 with
      | true => rw [if_pos rfl, Option.bind_some, if_pos rfl, List.set_set]
      | false => rw [if_neg (by decide), if_neg (by decide)]
theorem sDecide_ev (hn : ∀ t ∈ F, t.f0.size ≤ 1048576) (h1 : F.length ≤ 1048576) (h2 : L.length ≤ 1048576) (h3 : G0.length ≤ 1048576) (h4 : fa.length ≤ 1048576) (h5 : ta.length ≤ 1048576) (ps : List Prot) :
    Ev (fun k => spec_Decide.f k F w d s L ag G0 fa ta ps) (decided F w d s L ag fa ta G0 ps) := by
  unfold spec_Decide.f decided
  have fals : Ev (fun k => spec_Decide.j0 k ps true F w d s L ag G0 fa ta) ([], 0, 0, 0, [], false, [], [], [], false) := Ev.step (f := fun _ => some _) (fun k => by rw [spec_Decide.j0, if_pos rfl]) (Ev.now _)
  refine Ev.bind (sBookOk_ev F w d s L ag G0 fa ta (fun t ht => Nat.le_trans (hn t ht) (by decide))) ?_
  cases hb : bookOkB F w d s L G0 fa ta with
  | false => exact Ev.congr (fun k => by rw [if_neg (by decide)]) fals
  | true =>
    refine Ev.congr (fun k => by rw [if_pos rfl]) ?_
    by_cases hp : ps.length ≤ 6
    · rw [decide_eq_true hp, decide_eq_false (show ¬ ((ps.length : Int) > 6) by omega)]
      refine Ev.step (fun k => by rw [spec_Decide.j0, if_neg (by decide), sCopy_eq F w d s L ag fa ta G0 h1 h2 h3 h4 h5, Option.bind_some]) ?_
      exact sDecide_loop F w d s L ag fa ta G0 hn h3 hb ps (by omega) ps.length 0 G0 (by omega) rfl
    · rw [decide_eq_false hp, decide_eq_true (show ((ps.length : Int) > 6) by omega)]
      exact fals
theorem iDecide_ev (hn : ∀ t ∈ F, t.f0.size ≤ 1048576) (h1 : F.length ≤ 1048576) (h2 : L.length ≤ 1048576) (h3 : G0.length ≤ 1048576) (h4 : fa.length ≤ 1048576) (h5 : ta.length ≤ 1048576) (ps : List Prot) :
    Ev (fun k => impl_Decide.f k F w d s L ag G0 fa ta ps) (decided F w d s L ag fa ta G0 ps) := by
  unfold impl_Decide.f decided
  have fals : Ev (fun k => impl_Decide.j0 k ps true F w d s L ag G0 fa ta) ([], 0, 0, 0, [], false, [], [], [], false) := Ev.step (f := fun _ => some _) (fun k => by rw [impl_Decide.j0, if_pos rfl]) (Ev.now _)
  refine Ev.bind (Ev.from _ (bookOk_eq F w d s L ag G0 fa ta ⟨fun t ht => Nat.le_trans (hn t ht) (by decide), by omega, by omega⟩)) ?_
  cases hb : bookOkB F w d s L G0 fa ta with
  | false => exact Ev.congr (fun k => by rw [if_neg (by decide)]) fals
  | true =>
    refine Ev.congr (fun k => by rw [if_pos rfl]) ?_
    by_cases hp : ps.length ≤ 6
    · rw [decide_eq_true hp, decide_eq_false (show ¬ ((ps.length : Int) > 6) by omega)]
      refine Ev.step (fun k => by rw [impl_Decide.j0, if_neg (by decide), iCopied_eq F w d s L ag fa ta G0 h1 h2 h3 h4 h5, Option.bind_some]) ?_
      exact iDecide_loop F w d s L ag fa ta G0 hn h2 h3 hb ps (by omega) ps.length 0 G0 (by omega) rfl
    · rw [decide_eq_false hp, decide_eq_true (show ((ps.length : Int) > 6) by omega)]
      exact fals
end
end Go.Proofs.Ythfefanapneocaa.Q
namespace Go.Proofs.Ythfefanapneocaa.Pure
open Go.RowKit Go.Proofs.Ythfefanapneocaa.Q Go.Proofs.YthfefanapneocaaW.PrintWords Go.Proofs.YthfefanapneocaaW.PrintLast
theorem FnExactDecide (F : List TeamA) (w d s : Int) (L : List Int) (ag : Bool) (G : List GameA) (fa ta : List Int) (l1 : List ProtA) (ok0 : BkArg F w d s L G fa ta) (ok1 : l1.length ≤ maxLen ∧ ∀ x ∈ l1, (Lit.int .i64 x.f0).wf = true ∧ (Lit.int .i64 x.f1).wf = true ∧ True) :
    ∃ k, laws_FnExactDecide.f k F w d s L ag G fa ta l1 = some true := by
  refine Ev.rounds ?_
  unfold laws_FnExactDecide.f
  obtain ⟨t, et, ht⟩ := szBook_arg F w d s L ag G fa ta ok0
  rcases ht with ht | ⟨ht, ht2, hs⟩
  · exact Ev.bind et (Ev.val fun k => by rw [if_pos ht])
  refine Ev.bind et (Ev.congr (fun k => by rw [if_neg (by omega)]) ?_)
  have sz := szProt_eq l1 t ht ht2 ok1.1
  by_cases hl1 : t - (l1.length : Int) < 0
  · rw [if_pos hl1] at sz
    exact Ev.val fun k => by rw [sz, Option.bind_some, if_pos (by decide)]
  rw [if_neg hl1] at sz
  have h1 : l1.length ≤ 1048576 := by omega
  refine Ev.congr (fun k => by rw [sz, Option.bind_some, if_neg hl1]) ?_
  have hF : (F.map convT).length ≤ 1048576 := by rw [List.length_map]; exact hs.f
  have hG : (G.map convG).length ≤ 1048576 := by rw [List.length_map]; exact hs.g
  have hN : ∀ t ∈ F.map convT, t.f0.size ≤ 1048576 := by
    intro t h
    obtain ⟨x, hx, rfl⟩ := List.mem_map.mp h
    exact hs.n x hx
  have eA := toBook_ev F w d s L ag G fa ta hs.f hs.l hs.g hs.x hs.y
  have eT := toProt_ev l1 h1
  have h1m : (l1.map convP).length ≤ 1048576 := by rw [List.length_map]; exact h1
  have eS := sDecide_ev (F.map convT) w d s L ag fa ta (G.map convG) hN hF hs.l hG hs.x hs.y (l1.map convP)
  have eI := iDecide_ev (F.map convT) w d s L ag fa ta (G.map convG) hN hF hs.l hG hs.x hs.y (l1.map convP)
  have eB := eqBook_ev (F.map convT) w d s L ag (G.map convG) fa ta hF hs.l hG hs.x hs.y
  have eL := eqProt_ev (l1.map convP) h1m
  obtain ⟨F2, w2, d2, s2, L2, ag2, G2, fa2, ta2, b2, hr, z1, z2, z3, z4, z5⟩ : ∃ F2 w2 d2 s2 L2 ag2 G2 fa2 ta2 b2, decided (F.map convT) w d s L ag fa ta (G.map convG) (l1.map convP) = (F2, w2, d2, s2, L2, ag2, G2, fa2, ta2, b2) ∧ F2.length ≤ 1048576 ∧ L2.length ≤ 1048576 ∧ G2.length ≤ 1048576 ∧ fa2.length ≤ 1048576 ∧ ta2.length ≤ 1048576 := by
    unfold decided
    cases hd : (if bookOkB (F.map convT) w d s L (G.map convG) fa ta && decide ((l1.map convP).length ≤ 6) then decideL (G.map convG) (l1.map convP) (G.map convG) else none) with
    | none => exact ⟨_, _, _, _, _, _, _, _, _, _, rfl, Nat.zero_le _, Nat.zero_le _, Nat.zero_le _, Nat.zero_le _, Nat.zero_le _⟩
    | some G2 =>
      refine ⟨_, _, _, _, _, _, _, _, _, _, rfl, hF, hs.l, ?_, hs.x, hs.y⟩
      split at hd
      · rw [decideL_len _ _ _ _ hd]; exact hG
      · cases hd
  rw [hr] at eS eI
  have eR := eqBook_ev F2 w2 d2 s2 L2 ag2 G2 fa2 ta2 z1 z2 z3 z4 z5
  refine Ev.bind eA (Ev.bind eT (Ev.bind eS (Ev.bind eA (Ev.bind eT (Ev.bind eI (Ev.bind eR ?_))))))
  have eM := markBook_ev F2 w2 d2 s2 L2 ag2 G2 fa2 ta2 1 (by decide) (by decide) z1 z2 z3 z4 z5
  have eH := heldBook_ev w2 d2 s2 ag2 1 (by decide) (by decide) F2.length L2.length G2.length fa2.length ta2.length z1 z2 z3 z4 z5
  have hp := markBk_pos 1 (by decide) F2.length L2.length G2.length fa2.length ta2.length
  have eM1 := markBook_ev (F.map convT) w d s L ag (G.map convG) fa ta 1 (by decide) (by decide) hF hs.l hG hs.x hs.y
  have hp1 := markBk_pos 1 (by decide) (F.map convT).length L.length (G.map convG).length fa.length ta.length
  have hp2 := markBk_le 1 (F.map convT).length L.length (G.map convG).length fa.length ta.length hF hs.l hG hs.x hs.y (by decide)
  obtain ⟨l2, eM2⟩ := markProt_ev (l1.map convP).length h1m _ (Int.le_of_lt hp1) (by omega) (l1.map convP) rfl
  have ej2 : Ev (fun k => laws_FnExactDecide.j2 k (markBk 1 F2.length L2.length G2.length fa2.length ta2.length).1 false (markBk 1 F2.length L2.length G2.length fa2.length ta2.length).2.1 w2 d2 s2 (markBk 1 F2.length L2.length G2.length fa2.length ta2.length).2.2.1 ag2 (markBk 1 F2.length L2.length G2.length fa2.length ta2.length).2.2.2.1 (markBk 1 F2.length L2.length G2.length fa2.length ta2.length).2.2.2.2.1 (markBk 1 F2.length L2.length G2.length fa2.length ta2.length).2.2.2.2.2) true := by
    refine Ev.step (fun k => by rw [laws_FnExactDecide.j2, if_neg (by decide)]) (Ev.bind eH ?_)
    exact Ev.val fun k => by rw [if_neg (by omega), if_pos rfl]
  have ej1 : Ev (fun k => laws_FnExactDecide.j1 k l1 b2 false F w d s L ag G fa ta F2 w2 d2 s2 L2 ag2 G2 fa2 ta2 F2 w2 d2 s2 L2 ag2 G2 fa2 ta2) true := by
    refine Ev.step (fun k => by rw [laws_FnExactDecide.j1, if_neg (by decide)]) (Ev.bind eM (Ev.bind eH ?_))
    refine Ev.congr (fun k => by rw [if_neg (by omega), if_pos rfl]) (Ev.bind eA (Ev.bind eT (Ev.bind eI (Ev.bind eR ?_))))
    refine Ev.congr (fun k => by rw [if_pos rfl]) ?_
    simp only [bne_self_eq_false]
    exact ej2
  refine Ev.congr (fun k => by rw [if_pos rfl]) ?_
  simp only [bne_self_eq_false]
  refine Ev.step (fun k => by rw [laws_FnExactDecide.j0, if_neg (by decide)]) (Ev.bind eA (Ev.bind eB ?_))
  refine Ev.congr (fun k => by rw [if_pos rfl]) (Ev.bind eT (Ev.bind eL ?_))
  refine Ev.congr (fun k => by rw [if_pos rfl]) (Ev.bind eM1 (Ev.bind eM2 ?_))
  refine Ev.congr (fun k => by rw [if_neg (by omega)]) (Ev.bind eR ?_)
  refine Ev.congr (fun k => by rw [if_pos rfl]) ?_
  simp only [bne_self_eq_false]
  exact ej1
end Go.Proofs.Ythfefanapneocaa.Pure
namespace Go.Proofs.Ythfefanapneocaa.fnExactDecide
open Go.ChangeShapes Go.WideShapes Go.ChangeAt Go.RowKit
open Go.ChangeMaps (open_string shut_string)
set_option linter.unusedVariables false
theorem own : ownKnob Try.prog.godebug = none := by kernel_rfl
theorem laidOut : laidOutB Try.prog = true := by kernel_rfl
set_option maxRecDepth 100000 in
set_option maxHeartbeats 4000000 in
theorem lifted (os : Os) (started : os.Started) (H : Type) (enc : TypeId × Value → H) :
    ReturnsInHanded {} Try.checked os 3 .any (Rows.fnExactDecideSpec.pre6 enc Try.prog Try.f3 Rows.fnExactDecideRow.domain false) (Rows.fnExactDecideSpec.post enc Try.prog Try.f3 false true false false) := by
  refine returnsInHanded_of_change_sized (C := Try.checked) own started (by kernel_rfl) Try.func3
    (ChangeSpec.witness6 (enc := enc) (C := Try.checked) false ⟨#[], #[.agg #[.slice none 0 0, .int .i64 0, .int .i64 0, .int .i64 0, .slice none 0 0, .bool false, .slice none 0 0, .slice none 0 0, .slice none 0 0], .slice none 0 0], []⟩ 8 (by kernel_rfl) (by kernel_rfl) (by kernel_rfl) (by kernel_rfl)) ?_
  intro W base args ds gs before hval0 hW hcnd hsz0 _
  have hval : ∀ (j : Nat) t v, Try.f3.params[j]? = some t → args[j]? = some v → Value.okWide Try.prog W .any base t v := hval0
  have hW' := hW
  obtain ⟨p, q, hA0, hV, rfl, hfz, hnd⟩ := hW
  have hA : DataW.TrodAll enc Try.prog W 0 (fun _ => true) true Try.f3.params.toList args.toList ds p := hA0
  rw [Try.params3] at hA hval
  obtain ⟨v0, vs0, d0, ds0, p0, q0, hargs0, rfl, rfl, h0, r0⟩ := trodAll_cons hA
  obtain ⟨v1, vs1, d1, ds1, p1, q1, hargs1, rfl, rfl, h1, r1⟩ := trodAll_cons r0
  obtain ⟨rfl, rfl, rfl⟩ := trodAll_nil r1
  obtain rfl : args = #[v0, v1] := by cases args; simp_all
  obtain ⟨rfl, rfl⟩ := trodVars_none hV
  have k0 := h0; have lt0 : ∀ x ∈ p0, x.block < W.heap.size := by obtain ⟨m, hm⟩ := k0; exact DataW.trod_lt m _ _ _ hm
  have k1 := h1; have lt1 : ∀ x ∈ p1, x.block < W.heap.size := by obtain ⟨m, hm⟩ := k1; exact DataW.trod_lt m _ _ _ hm
  obtain ⟨cs0, x0, rfl, hK0, ok0⟩ := Opens.trod_struct_val Try.underlying28 (hval 0 28 v0 rfl rfl) h0 (Opens.struct Try.underlying28 (by kernel_rfl) (Opens.cons 0 1 rfl (Opens.slice Try.underlying22 (Opens.iso (f := fun x : Q.S133 => (x.f0, x.f1, x.f2)) (fun x => ⟨x.1, x.2.1, x.2.2⟩) (fun _ => rfl) (Opens.struct Try.underlying133 (by kernel_rfl) (Opens.cons 0 1 rfl (Opens.string Try.underlying9) (by kernel_rfl) rfl (Opens.cons 1 2 rfl (Opens.int Try.underlying3) (by kernel_rfl) rfl (Opens.one 2 rfl (Opens.int Try.underlying3) (by kernel_rfl)))))) (by kernel_rfl) 133) (by kernel_rfl) rfl (Opens.cons 1 6 rfl (Opens.struct Try.underlying25 (by kernel_rfl) (Opens.cons 0 1 rfl (Opens.int Try.underlying3) (by kernel_rfl) rfl (Opens.cons 1 2 rfl (Opens.int Try.underlying3) (by kernel_rfl) rfl (Opens.cons 2 3 rfl (Opens.int Try.underlying3) (by kernel_rfl) rfl (Opens.cons 3 4 rfl (Opens.slice Try.underlying23 (Opens.int Try.underlying3) (by kernel_rfl) 3) (by kernel_rfl) rfl (Opens.one 4 rfl (Opens.bool Try.underlying4) (by kernel_rfl))))))) (by kernel_rfl) rfl (Opens.cons 6 7 rfl (Opens.slice Try.underlying26 (Opens.iso (f := fun x : Q.S147 => (x.f0, x.f1, x.f2, x.f3, x.f4)) (fun x => ⟨x.1, x.2.1, x.2.2.1, x.2.2.2.1, x.2.2.2.2⟩) (fun _ => rfl) (Opens.struct Try.underlying147 (by kernel_rfl) (Opens.cons 0 1 rfl (Opens.int Try.underlying3) (by kernel_rfl) rfl (Opens.cons 1 2 rfl (Opens.int Try.underlying3) (by kernel_rfl) rfl (Opens.cons 2 3 rfl (Opens.int Try.underlying3) (by kernel_rfl) rfl (Opens.cons 3 4 rfl (Opens.int Try.underlying3) (by kernel_rfl) rfl (Opens.one 4 rfl (Opens.int Try.underlying3) (by kernel_rfl)))))))) (by kernel_rfl) 147) (by kernel_rfl) rfl (Opens.cons 7 8 rfl (Opens.slice Try.underlying23 (Opens.int Try.underlying3) (by kernel_rfl) 3) (by kernel_rfl) rfl (Opens.one 8 rfl (Opens.slice Try.underlying23 (Opens.int Try.underlying3) (by kernel_rfl) 3) (by kernel_rfl)))))))
  obtain ⟨l0_0, ⟨a0_1_0, a0_1_1, a0_1_2, l0_1_3, a0_1_4⟩, l0_2, l0_3, l0_4⟩ := x0
  obtain ⟨_, _, hcs0, ⟨A0_0, c0_0, rfl, hl0_0, hC0_0⟩, ⟨_, _, rfl, ⟨_, _, rfl, rfl, ⟨_, _, rfl, rfl, ⟨_, _, rfl, rfl, ⟨_, _, rfl, ⟨A0_1_3, c0_1_3, rfl, hl0_1_3, hC0_1_3⟩, rfl⟩⟩⟩⟩, ⟨_, _, rfl, ⟨A0_2, c0_2, rfl, hl0_2, hC0_2⟩, ⟨_, _, rfl, ⟨A0_3, c0_3, rfl, hl0_3, hC0_3⟩, ⟨A0_4, c0_4, rfl, hl0_4, hC0_4⟩⟩⟩⟩⟩ := hK0
  obtain rfl : cs0 = #[.slice A0_0 l0_0.length c0_0, .int .i64 a0_1_0, .int .i64 a0_1_1, .int .i64 a0_1_2, .slice A0_1_3 l0_1_3.length c0_1_3, .bool a0_1_4, .slice A0_2 l0_2.length c0_2, .slice A0_3 l0_3.length c0_3, .slice A0_4 l0_4.length c0_4] := Array.toList_inj.mp hcs0
  obtain ⟨A1, c1, l1, rfl, hl1, hC1, ok1⟩ := Opens.trod_slice_val Try.underlying29 (hval 1 29 v1 rfl rfl) h1 (Opens.slice Try.underlying29 (Opens.iso (f := fun x : Q.S48 => (x.f0, x.f1, x.f2)) (fun x => ⟨x.1, x.2.1, x.2.2⟩) (fun _ => rfl) (Opens.struct Try.underlying48 (by kernel_rfl) (Opens.cons 0 1 rfl (Opens.int Try.underlying3) (by kernel_rfl) rfl (Opens.cons 1 2 rfl (Opens.int Try.underlying3) (by kernel_rfl) rfl (Opens.one 2 rfl (Opens.bool Try.underlying4) (by kernel_rfl)))))) (by kernel_rfl) 48)
  clear hA0 hval0 hsz0
  obtain ⟨k, hk⟩ := Pure.FnExactDecide l0_0 a0_1_0 a0_1_1 a0_1_2 l0_1_3 a0_1_4 l0_2 l0_3 l0_4 l1 ok0 ok1
  refine (Q.laws_FnExactDecide.calls k  A0_0 c0_0 l0_0 a0_1_0 a0_1_1 a0_1_2 A0_1_3 c0_1_3 l0_1_3 a0_1_4 A0_2 c0_2 l0_2 A0_3 c0_3 l0_3 A0_4 c0_4 l0_4 A1 c1 l1 _ W hC0_0 hl0_0 hC0_1_3 hl0_1_3 hC0_2 hl0_2 hC0_3 hl0_3 hC0_4 hl0_4 hC1 hl1 hk).mono fun e W' ⟨he, bel⟩ => ?_
  subst he
  exact ⟨_, rfl, _, _, _, [], _, [], hW', trodAll_mk1 (shut_bool Try.underlying4 _), (trodAll_cons_mk (Below.trod laidOut (by kernel_rfl) (of_decide_eq_true (by kernel_rfl)) k0 bel lt0) (trodAll_cons_mk (Below.trod laidOut (by kernel_rfl) (of_decide_eq_true (by kernel_rfl)) k1 bel lt1) trodAll_mk0)), rfl, bel.frame _, fun h => by cases h⟩
theorem over : Rows.fnExactDecideRow.holds Try.pinned (OpenSpec.ofChange Rows.fnExactDecideSpec) :=
  OpenClaim.holds_of_wide 3 Try.f3 rfl rfl rfl rfl rfl rfl rfl ⟨rfl, rfl, rfl, rfl, rfl⟩ rfl rfl rfl rfl rfl (by kernel_rfl) Try.func3 (by kernel_rfl)
    (of_decide_eq_true (by kernel_rfl)) (by unfold Func.isWrapper; first | (rw [if_pos (by decide +kernel)]; kernel_rfl) | (rw [if_neg (by decide +kernel)]; exact ⟨rfl, rfl⟩))
    (fun os started H enc _ => lifted os started H enc)
theorem proved : Rows.FnExactDecideSaid := over
end Go.Proofs.Ythfefanapneocaa.fnExactDecide
namespace Go.Proofs.Ythfefanapneocaa
theorem fnExactDecide_holds : Rows.FnExactDecideSaid := fnExactDecide.proved
end Go.Proofs.Ythfefanapneocaa
