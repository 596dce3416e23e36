/- A part of the proof of FnExactWithdraw: functions of the program, as plain functions, with the proof that the machine's call does what they say; plain lemmas; and those of the words that print.sh prints which this proof uses. No condition. -/
import Derived.Test.YthfefanapneocaaKFnExactWithdraw1
import Derived.Test.YthfefanapneocaaProg
import Derived.Below
import Derived.Deep.Draws
import Derived.Deep.AppendLies
import Derived.Maps.AppendAt
import Derived.OwnWalk
import Derived.Laws.BytesArg
import Derived.Laws.MakeOwn
import Derived.Laws.OwnMore
import Derived.Deep.OwnRows
import Derived.Tactics
import Derived.Lib.ConvBytes
import Derived.Laws.Slices
import Derived.WalkKit
import Derived.KernelRfl
import Derived.RowKit3
import Derived.Deep.LoopGhost
import Derived.Deep.QuietTactic
import Derived.BigQuiet
import Derived.WideLaws
import Derived.Deep.DeepCutAuto
import Derived.Deep.CutBlock
import Derived.Deep.RegionHeld3
import Derived.Laws.Rows
import Derived.Lib.AppendStr
import Derived.ArgAppend
import Derived.Laws.IdiomCopy
import Derived.OrdersHeld
import Derived.Laws.BitsLemmas
import Derived.RowKit
import Derived.WalkSpells
import Derived.Laws.StructEq
import Derived.Test.YthfefanapneocaaKFnExactWithdraw2
import Derived.Test.YthfefanapneocaaKFnExactWithdraw3
import Derived.Test.YthfefanapneocaaKFnExactWithdraw4
import Derived.Test.YthfefanapneocaaRows
import Derived.ProofKit
import Derived.OpenShut
import Derived.ShutString
import Derived.ChangeOld
import Derived.SizedLaws
section
namespace Go.Proofs.Ythfefanapneocaa.Q
open Go.RowKit Go.Proofs.YthfefanapneocaaW.PrintWords Go.Proofs.YthfefanapneocaaW.PrintLast Go.Proofs.YthfefanapneocaaW.PrintMore
attribute [local go_sem] max2_int min2_int max_two min_two max_three min_three max_four min_four
set_option linter.unusedVariables false
set_option linter.unusedSimpArgs false
set_option maxRecDepth 100000
set_option maxHeartbeats 8000000
mutual
def laws_FnExactWithdraw.j0 : Nat → Int → Int → Bool → Bool → Bool → List (S133) → Int → Int → Int → List Int → Bool → List (S147) → List Int → List Int → List (S139) → Int → Int → Int → List Int → Bool → List (S95) → List Int → List Int → List (S139) → Int → Int → Int → List Int → Bool → List (S95) → List Int → List Int → List (S139) → Int → Int → Int → List Int → Bool → List (S95) → List Int → List Int → Option (Bool)
 | 0, _, _, _, _, _, _, _, _, _, _, _, _, _, _, _, _, _, _, _, _, _, _, _, _, _, _, _, _, _, _, _, _, _, _, _, _, _, _, _, _, _ => none
 | k + 1, x1, x2, x9, x12, x48, x928000, x928001, x928002, x928003, x928004, x928005, x928006, x928007, x928008, x969000, x969001, x969002, x969003, x969004, x969005, x969006, x969007, x969008, x989000, x989001, x989002, x989003, x989004, x989005, x989006, x989007, x989008, x1010000, x1010001, x1010002, x1010003, x1010004, x1010005, x1010006, x1010007, x1010008 => if x48 = true then (some false) else ((laws_toBook.f k x928000 x928001 x928002 x928003 x928004 x928005 x928006 x928007 x928008).bind fun bt1011 => ((laws_eqBook.f k x989000 x989001 x989002 x989003 x989004 x989005 x989006 x989007 x989008 bt1011.1 bt1011.2.1 bt1011.2.2.1 bt1011.2.2.2.1 bt1011.2.2.2.2.1 bt1011.2.2.2.2.2.1 bt1011.2.2.2.2.2.2.1 bt1011.2.2.2.2.2.2.2.1 bt1011.2.2.2.2.2.2.2.2).bind fun t1030 => (if t1030 = true then ((laws_markBook.f k x989000 x989001 x989002 x989003 x989004 x989005 x989006 x989007 x989008 1).bind fun bt1031 => (if bt1031.1 < 0 then (laws_FnExactWithdraw.j1 k x1 x2 x9 true x928000 x928001 x928002 x928003 x928004 x928005 x928006 x928007 x928008 x969000 x969001 x969002 x969003 x969004 x969005 x969006 x969007 x969008 x1010000 x1010001 x1010002 x1010003 x1010004 x1010005 x1010006 x1010007 x1010008) else ((laws_eqBook.f k x1010000 x1010001 x1010002 x1010003 x1010004 x1010005 x1010006 x1010007 x1010008 x969000 x969001 x969002 x969003 x969004 x969005 x969006 x969007 x969008).bind fun t1037 => (if t1037 = true then (laws_FnExactWithdraw.j1 k x1 x2 x9 (x12 != x9) x928000 x928001 x928002 x928003 x928004 x928005 x928006 x928007 x928008 x969000 x969001 x969002 x969003 x969004 x969005 x969006 x969007 x969008 x1010000 x1010001 x1010002 x1010003 x1010004 x1010005 x1010006 x1010007 x1010008) else (laws_FnExactWithdraw.j1 k x1 x2 x9 true x928000 x928001 x928002 x928003 x928004 x928005 x928006 x928007 x928008 x969000 x969001 x969002 x969003 x969004 x969005 x969006 x969007 x969008 x1010000 x1010001 x1010002 x1010003 x1010004 x1010005 x1010006 x1010007 x1010008))))) else (some false))))
def laws_FnExactWithdraw.j1 : Nat → Int → Int → Bool → Bool → List (S133) → Int → Int → Int → List Int → Bool → List (S147) → List Int → List Int → List (S139) → Int → Int → Int → List Int → Bool → List (S95) → List Int → List Int → List (S139) → Int → Int → Int → List Int → Bool → List (S95) → List Int → List Int → Option (Bool)
 | 0, _, _, _, _, _, _, _, _, _, _, _, _, _, _, _, _, _, _, _, _, _, _, _, _, _, _, _, _, _, _, _ => none
 | k + 1, x1, x2, x9, x69, x928000, x928001, x928002, x928003, x928004, x928005, x928006, x928007, x928008, x969000, x969001, x969002, x969003, x969004, x969005, x969006, x969007, x969008, x1010000, x1010001, x1010002, x1010003, x1010004, x1010005, x1010006, x1010007, x1010008 => if x69 = true then (some false) else ((laws_markBook.f k x1010000 x1010001 x1010002 x1010003 x1010004 x1010005 x1010006 x1010007 x1010008 1).bind fun bt1038 => ((laws_heldBook.f k bt1038.2.1 x1010001 x1010002 x1010003 bt1038.2.2.1 x1010005 bt1038.2.2.2.1 bt1038.2.2.2.2.1 bt1038.2.2.2.2.2 1).bind fun t1044 => (if t1044 < 0 then (some false) else (if t1044 = bt1038.1 then ((laws_toBook.f k x928000 x928001 x928002 x928003 x928004 x928005 x928006 x928007 x928008).bind fun bt1045 => ((impl_Withdraw.f k bt1045.1 bt1045.2.1 bt1045.2.2.1 bt1045.2.2.2.1 bt1045.2.2.2.2.1 bt1045.2.2.2.2.2.1 bt1045.2.2.2.2.2.2.1 bt1045.2.2.2.2.2.2.2.1 bt1045.2.2.2.2.2.2.2.2 x1 x2).bind fun bt1064 => ((laws_eqBook.f k bt1064.1 bt1064.2.1 bt1064.2.2.1 bt1064.2.2.2.1 bt1064.2.2.2.2.1 bt1064.2.2.2.2.2.1 bt1064.2.2.2.2.2.2.1 bt1064.2.2.2.2.2.2.2.1 bt1064.2.2.2.2.2.2.2.2.1 x969000 x969001 x969002 x969003 x969004 x969005 x969006 x969007 x969008).bind fun t1085 => (if t1085 = true then (laws_FnExactWithdraw.j2 k bt1038.1 (bt1064.2.2.2.2.2.2.2.2.2 != x9) bt1038.2.1 x1010001 x1010002 x1010003 bt1038.2.2.1 x1010005 bt1038.2.2.2.1 bt1038.2.2.2.2.1 bt1038.2.2.2.2.2) else (laws_FnExactWithdraw.j2 k bt1038.1 true bt1038.2.1 x1010001 x1010002 x1010003 bt1038.2.2.1 x1010005 bt1038.2.2.2.1 bt1038.2.2.2.2.1 bt1038.2.2.2.2.2))))) else (some false)))))
def laws_FnExactWithdraw.j2 : Nat → Int → Bool → List (S139) → Int → Int → Int → List Int → Bool → List (S95) → List Int → List Int → Option (Bool)
 | 0, _, _, _, _, _, _, _, _, _, _, _ => none
 | k + 1, x14, x97, x1010000, x1010001, x1010002, x1010003, x1010004, x1010005, x1010006, x1010007, x1010008 => if x97 = true then (some false) else ((laws_heldBook.f k x1010000 x1010001 x1010002 x1010003 x1010004 x1010005 x1010006 x1010007 x1010008 1).bind fun t1086 => (if t1086 < 0 then (some false) else (if t1086 = x14 then (some true) else (some false))))
end
def laws_FnExactWithdraw.f (k : Nat) (l0_0 : List (S133)) (a0_1 : Int) (a0_2 : Int) (a0_3 : Int) (l0_4 : List Int) (a0_5 : Bool) (l0_6 : List (S147)) (l0_7 : List Int) (l0_8 : List Int) (a1 : Int) (a2 : Int) : Option (Bool) := (laws_szBook.f k l0_0 a0_1 a0_2 a0_3 l0_4 a0_5 l0_6 l0_7 l0_8 1048576).bind fun t928 => (if t928 < 0 then (some true) else ((laws_toBook.f k l0_0 a0_1 a0_2 a0_3 l0_4 a0_5 l0_6 l0_7 l0_8).bind fun bt929 => ((spec_Withdraw.f k bt929.1 bt929.2.1 bt929.2.2.1 bt929.2.2.2.1 bt929.2.2.2.2.1 bt929.2.2.2.2.2.1 bt929.2.2.2.2.2.2.1 bt929.2.2.2.2.2.2.2.1 bt929.2.2.2.2.2.2.2.2 a1 a2).bind fun bt948 => ((laws_toBook.f k l0_0 a0_1 a0_2 a0_3 l0_4 a0_5 l0_6 l0_7 l0_8).bind fun bt969 => ((impl_Withdraw.f k bt969.1 bt969.2.1 bt969.2.2.1 bt969.2.2.2.1 bt969.2.2.2.2.1 bt969.2.2.2.2.2.1 bt969.2.2.2.2.2.2.1 bt969.2.2.2.2.2.2.2.1 bt969.2.2.2.2.2.2.2.2 a1 a2).bind fun bt989 => ((laws_eqBook.f k bt989.1 bt989.2.1 bt989.2.2.1 bt989.2.2.2.1 bt989.2.2.2.2.1 bt989.2.2.2.2.2.1 bt989.2.2.2.2.2.2.1 bt989.2.2.2.2.2.2.2.1 bt989.2.2.2.2.2.2.2.2.1 bt948.1 bt948.2.1 bt948.2.2.1 bt948.2.2.2.1 bt948.2.2.2.2.1 bt948.2.2.2.2.2.1 bt948.2.2.2.2.2.2.1 bt948.2.2.2.2.2.2.2.1 bt948.2.2.2.2.2.2.2.2.1).bind fun t1010 => (if t1010 = true then (laws_FnExactWithdraw.j0 k a1 a2 bt948.2.2.2.2.2.2.2.2.2 bt989.2.2.2.2.2.2.2.2.2 (bt989.2.2.2.2.2.2.2.2.2 != bt948.2.2.2.2.2.2.2.2.2) l0_0 a0_1 a0_2 a0_3 l0_4 a0_5 l0_6 l0_7 l0_8 bt948.1 bt948.2.1 bt948.2.2.1 bt948.2.2.2.1 bt948.2.2.2.2.1 bt948.2.2.2.2.2.1 bt948.2.2.2.2.2.2.1 bt948.2.2.2.2.2.2.2.1 bt948.2.2.2.2.2.2.2.2.1 bt969.1 bt969.2.1 bt969.2.2.1 bt969.2.2.2.1 bt969.2.2.2.2.1 bt969.2.2.2.2.2.1 bt969.2.2.2.2.2.2.1 bt969.2.2.2.2.2.2.2.1 bt969.2.2.2.2.2.2.2.2 bt989.1 bt989.2.1 bt989.2.2.1 bt989.2.2.2.1 bt989.2.2.2.2.1 bt989.2.2.2.2.2.1 bt989.2.2.2.2.2.2.1 bt989.2.2.2.2.2.2.2.1 bt989.2.2.2.2.2.2.2.2.1) else (laws_FnExactWithdraw.j0 k a1 a2 bt948.2.2.2.2.2.2.2.2.2 bt989.2.2.2.2.2.2.2.2.2 true l0_0 a0_1 a0_2 a0_3 l0_4 a0_5 l0_6 l0_7 l0_8 bt948.1 bt948.2.1 bt948.2.2.1 bt948.2.2.2.1 bt948.2.2.2.2.1 bt948.2.2.2.2.2.1 bt948.2.2.2.2.2.2.1 bt948.2.2.2.2.2.2.2.1 bt948.2.2.2.2.2.2.2.2.1 bt969.1 bt969.2.1 bt969.2.2.1 bt969.2.2.2.1 bt969.2.2.2.2.1 bt969.2.2.2.2.2.1 bt969.2.2.2.2.2.2.1 bt969.2.2.2.2.2.2.2.1 bt969.2.2.2.2.2.2.2.2 bt989.1 bt989.2.1 bt989.2.2.1 bt989.2.2.2.1 bt989.2.2.2.2.1 bt989.2.2.2.2.2.1 bt989.2.2.2.2.2.2.1 bt989.2.2.2.2.2.2.2.1 bt989.2.2.2.2.2.2.2.2.1))))))))
theorem laws_FnExactWithdraw.calls (k : Nat) (A0_0 : Option Addr) (c0_0 : Nat) (l0_0 : List (S133)) (a0_1 : Int) (a0_2 : Int) (a0_3 : Int) (A0_4 : Option Addr) (c0_4 : Nat) (l0_4 : List Int) (a0_5 : Bool) (A0_6 : Option Addr) (c0_6 : Nat) (l0_6 : List (S147)) (A0_7 : Option Addr) (c0_7 : Nat) (l0_7 : List Int) (A0_8 : Option Addr) (c0_8 : Nat) (l0_8 : List Int) (a1 : Int) (a2 : Int) (r : Bool) (w : World) (hr0_0 : Kd.C k133 w A0_0 l0_0.length l0_0) (hc0_0 : l0_0.length ≤ c0_0) (hr0_4 : Kd.C (Kd.int .i64) w A0_4 l0_4.length l0_4) (hc0_4 : l0_4.length ≤ c0_4) (hr0_6 : Kd.C k147 w A0_6 l0_6.length l0_6) (hc0_6 : l0_6.length ≤ c0_6) (hr0_7 : Kd.C (Kd.int .i64) w A0_7 l0_7.length l0_7) (hc0_7 : l0_7.length ≤ c0_7) (hr0_8 : Kd.C (Kd.int .i64) w A0_8 l0_8.length l0_8) (hc0_8 : l0_8.length ≤ c0_8) (h : laws_FnExactWithdraw.f k l0_0 a0_1 a0_2 a0_3 l0_4 a0_5 l0_6 l0_7 l0_8 a1 a2 = some r) :
  Calls Try.prog 5 #[.agg #[.slice A0_0 l0_0.length c0_0, .int .i64 a0_1, .int .i64 a0_2, .int .i64 a0_3, .slice A0_4 l0_4.length c0_4, .bool a0_5, .slice A0_6 l0_6.length c0_6, .slice A0_7 l0_7.length c0_7, .slice A0_8 l0_8.length c0_8], .int .i64 a1, .int .i64 a2] w fun e w' => e = .returned (.bool r) ∧ Below w.heap.size w w' := by
 have hu28 := Try.underlying28
 have hu36 := Try.underlying36
 have HR0_0 := dk hr0_0
 have HC0_0 := dk hc0_0
 clear hr0_0 hc0_0
 have HR0_4 := dk hr0_4
 have HC0_4 := dk hc0_4
 clear hr0_4 hc0_4
 have HR0_6 := dk hr0_6
 have HC0_6 := dk hc0_6
 clear hr0_6 hc0_6
 have HR0_7 := dk hr0_7
 have HC0_7 := dk hc0_7
 clear hr0_7 hc0_7
 have HR0_8 := dk hr0_8
 have HC0_8 := dk hc0_8
 clear hr0_8 hc0_8
 have HB := dk (Below.refl w.heap.size w)
 have H : ((laws_szBook.f k l0_0 a0_1 a0_2 a0_3 l0_4 a0_5 l0_6 l0_7 l0_8 1048576).bind fun t928 => (if t928 < 0 then (some true) else ((laws_toBook.f k l0_0 a0_1 a0_2 a0_3 l0_4 a0_5 l0_6 l0_7 l0_8).bind fun bt929 => ((spec_Withdraw.f k bt929.1 bt929.2.1 bt929.2.2.1 bt929.2.2.2.1 bt929.2.2.2.2.1 bt929.2.2.2.2.2.1 bt929.2.2.2.2.2.2.1 bt929.2.2.2.2.2.2.2.1 bt929.2.2.2.2.2.2.2.2 a1 a2).bind fun bt948 => ((laws_toBook.f k l0_0 a0_1 a0_2 a0_3 l0_4 a0_5 l0_6 l0_7 l0_8).bind fun bt969 => ((impl_Withdraw.f k bt969.1 bt969.2.1 bt969.2.2.1 bt969.2.2.2.1 bt969.2.2.2.2.1 bt969.2.2.2.2.2.1 bt969.2.2.2.2.2.2.1 bt969.2.2.2.2.2.2.2.1 bt969.2.2.2.2.2.2.2.2 a1 a2).bind fun bt989 => ((laws_eqBook.f k bt989.1 bt989.2.1 bt989.2.2.1 bt989.2.2.2.1 bt989.2.2.2.2.1 bt989.2.2.2.2.2.1 bt989.2.2.2.2.2.2.1 bt989.2.2.2.2.2.2.2.1 bt989.2.2.2.2.2.2.2.2.1 bt948.1 bt948.2.1 bt948.2.2.1 bt948.2.2.2.1 bt948.2.2.2.2.1 bt948.2.2.2.2.2.1 bt948.2.2.2.2.2.2.1 bt948.2.2.2.2.2.2.2.1 bt948.2.2.2.2.2.2.2.2.1).bind fun t1010 => (if t1010 = true then (laws_FnExactWithdraw.j0 k a1 a2 bt948.2.2.2.2.2.2.2.2.2 bt989.2.2.2.2.2.2.2.2.2 (bt989.2.2.2.2.2.2.2.2.2 != bt948.2.2.2.2.2.2.2.2.2) l0_0 a0_1 a0_2 a0_3 l0_4 a0_5 l0_6 l0_7 l0_8 bt948.1 bt948.2.1 bt948.2.2.1 bt948.2.2.2.1 bt948.2.2.2.2.1 bt948.2.2.2.2.2.1 bt948.2.2.2.2.2.2.1 bt948.2.2.2.2.2.2.2.1 bt948.2.2.2.2.2.2.2.2.1 bt969.1 bt969.2.1 bt969.2.2.1 bt969.2.2.2.1 bt969.2.2.2.2.1 bt969.2.2.2.2.2.1 bt969.2.2.2.2.2.2.1 bt969.2.2.2.2.2.2.2.1 bt969.2.2.2.2.2.2.2.2 bt989.1 bt989.2.1 bt989.2.2.1 bt989.2.2.2.1 bt989.2.2.2.2.1 bt989.2.2.2.2.2.1 bt989.2.2.2.2.2.2.1 bt989.2.2.2.2.2.2.2.1 bt989.2.2.2.2.2.2.2.2.1) else (laws_FnExactWithdraw.j0 k a1 a2 bt948.2.2.2.2.2.2.2.2.2 bt989.2.2.2.2.2.2.2.2.2 true l0_0 a0_1 a0_2 a0_3 l0_4 a0_5 l0_6 l0_7 l0_8 bt948.1 bt948.2.1 bt948.2.2.1 bt948.2.2.2.1 bt948.2.2.2.2.1 bt948.2.2.2.2.2.1 bt948.2.2.2.2.2.2.1 bt948.2.2.2.2.2.2.2.1 bt948.2.2.2.2.2.2.2.2.1 bt969.1 bt969.2.1 bt969.2.2.1 bt969.2.2.2.1 bt969.2.2.2.2.1 bt969.2.2.2.2.2.1 bt969.2.2.2.2.2.2.1 bt969.2.2.2.2.2.2.2.1 bt969.2.2.2.2.2.2.2.2 bt989.1 bt989.2.1 bt989.2.2.1 bt989.2.2.2.1 bt989.2.2.2.2.1 bt989.2.2.2.2.2.1 bt989.2.2.2.2.2.2.1 bt989.2.2.2.2.2.2.2.1 bt989.2.2.2.2.2.2.2.2.1))))))))) = some r := h
 clear h
 replace H := Option.bind_eq_some_iff.mp H
 obtain ⟨t928, A40, H⟩ := H
 try dsimp only at H
 have A4 := dk A40
 clear A40
 have HC5 := dk H
 clear H
 go_enter Try.func5, Try.ntmps5
 go_upto_if 22 with (first | ((with_reducible refine gate_dst (N := 3) rfl ?_); refine bx (N := 3) (cs := #[.slice A0_0 l0_0.length c0_0, .int .i64 a0_1, .int .i64 a0_2, .int .i64 a0_3, .slice A0_4 l0_4.length c0_4, .bool a0_5, .slice A0_6 l0_6.length c0_6, .slice A0_7 l0_7.length c0_7, .slice A0_8 l0_8.length c0_8]) (t := 28) ?_; intro gb927 hg w6 hbox hb; have BK927 := dk (hbox); have GW927 := gs hg HB; have GE927 := gs hg HB; replace HB := hs_ HB hb; clear hb hbox hg; have ⟨z7_0, z7_1, z7_2, z7_3, z7_4, z7_5, z7_6, z7_7, z7_8, v7_0, v7_1, v7_2, v7_3, v7_4, v7_5, v7_6, v7_7, v7_8⟩ := rz9 BK927) | ((with_reducible refine gate_callee (f := 10) rfl ?_); refine gl (some 20) Try.func10 #[.agg #[.slice A0_0 l0_0.length c0_0, .int .i64 a0_1, .int .i64 a0_2, .int .i64 a0_3, .slice A0_4 l0_4.length c0_4, .bool a0_5, .slice A0_6 l0_6.length c0_6, .slice A0_7 l0_7.length c0_7, .slice A0_8 l0_8.length c0_8], .int .i64 1048576] ?_; (with_reducible refine (laws_szBook.calls k _ _ l0_0 a0_1 a0_2 a0_3 _ _ l0_4 a0_5 _ _ l0_6 _ _ l0_7 _ _ l0_8 1048576 t928 _ ?side1 ?side2 ?side3 ?side4 ?side5 ?side6 ?side7 ?side8 ?side9 ?side10 A4.out).mono ?_); (case side1 => exact cc HR0_0 HB); (case side2 => exact HC0_0.out); (case side3 => exact cc HR0_4 HB); (case side4 => exact HC0_4.out); (case side5 => exact cc HR0_6 HB); (case side6 => exact HC0_6.out); (case side7 => exact cc HR0_7 HB); (case side8 => exact HC0_7.out); (case side9 => exact cc HR0_8 HB); (case side10 => exact HC0_8.out); rintro e w8 ⟨rfl, hb⟩; refine ⟨_, rfl, ?_⟩; replace BK927 := kb BK927 hb; replace HB := hs_ HB hb; (try clear hb hb2 hk hi)))
 (try simp only [Act.put, List.setIfInBounds_toArray, List.set_cons_zero, List.set_cons_succ])
 have H := HC5.out
 clear HC5
 by_cases c9 : t928 < 0
 ·rw [if_pos c9] at H
  have c9b0 : decide (t928 < 0) = true := decide_eq_true c9
  clear c9
  (first | rw [c9b0] | rw [c9b1] | (simp only [i64_w, i32_w]; rw [c9b0]) | skip)
  obtain rfl := Option.some.inj H
  go_wp2
  go_ret
  exact ⟨ee, bb HB⟩
 ·rw [if_neg c9] at H
  have c9b0 : decide (t928 < 0) = false := decide_eq_false c9
  clear c9
  (first | rw [c9b0] | rw [c9b1] | (simp only [i64_w, i32_w]; rw [c9b0]) | skip)
  replace H := Option.bind_eq_some_iff.mp H
  obtain ⟨⟨t929, t932, t933, t934, t935, t938, t939, t942, t945⟩, A100, H⟩ := H
  try dsimp only at H
  have A10 := dk A100
  clear A100
  replace H := Option.bind_eq_some_iff.mp H
  obtain ⟨⟨t948, t951, t952, t953, t954, t957, t958, t961, t964, t967⟩, A110, H⟩ := H
  try dsimp only at H
  have A11 := dk A110
  clear A110
  replace H := Option.bind_eq_some_iff.mp H
  obtain ⟨⟨t969, t972, t973, t974, t975, t978, t979, t982, t985⟩, A120, H⟩ := H
  try dsimp only at H
  have A12 := dk A120
  clear A120
  replace H := Option.bind_eq_some_iff.mp H
  obtain ⟨⟨t989, t992, t993, t994, t995, t998, t999, t1002, t1005, t1008⟩, A130, H⟩ := H
  try dsimp only at H
  have A13 := dk A130
  clear A130
  have HC14 := dk H
  clear H
  have ⟨z15_0, z15_1, z15_2, z15_3, z15_4, z15_5, z15_6, z15_7, z15_8, v15_0, v15_1, v15_2, v15_3, v15_4, v15_5, v15_6, v15_7, v15_8⟩ := rz9 BK927
  go_upto_region 8 with (first | ((with_reducible refine gate_callee (f := 13) rfl ?_); refine gl (some 25) Try.func13 #[.agg #[.slice A0_0 l0_0.length c0_0, .int .i64 a0_1, .int .i64 a0_2, .int .i64 a0_3, .slice A0_4 l0_4.length c0_4, .bool a0_5, .slice A0_6 l0_6.length c0_6, .slice A0_7 l0_7.length c0_7, .slice A0_8 l0_8.length c0_8]] ?_; (with_reducible refine (laws_toBook.calls k _ _ l0_0 a0_1 a0_2 a0_3 _ _ l0_4 a0_5 _ _ l0_6 _ _ l0_7 _ _ l0_8 t929 t932 t933 t934 t935 t938 t939 t942 t945 _ ?side1 ?side2 ?side3 ?side4 ?side5 ?side6 ?side7 ?side8 ?side9 ?side10 A10.out).mono ?_); (case side1 => exact cc HR0_0 HB); (case side2 => exact HC0_0.out); (case side3 => exact cc HR0_4 HB); (case side4 => exact HC0_4.out); (case side5 => exact cc HR0_6 HB); (case side6 => exact HC0_6.out); (case side7 => exact cc HR0_7 HB); (case side8 => exact HC0_7.out); (case side9 => exact cc HR0_8 HB); (case side10 => exact HC0_8.out); rintro e w16 ⟨v930, v936, v940, v943, v946, rfl, ho0, ho1, ho2, ho3, ho4, hb⟩; refine ⟨_, rfl, ?_⟩; have HO931 := kl ho0 HB; have HO937 := kl ho1 HB; have HO941 := kl ho2 HB; have HO944 := kl ho3 HB; have HO947 := kl ho4 HB; replace BK927 := kb BK927 hb; replace HB := hs_ HB hb; (try clear hb hb2 hk hi ho0 ho1 ho2 ho3 ho4); obtain ⟨Ao17, co17, eo17⟩ := Kd.R_slice HO931.out; subst eo17; obtain ⟨Ao18, co18, eo18⟩ := Kd.R_slice HO937.out; subst eo18; obtain ⟨Ao19, co19, eo19⟩ := Kd.R_slice HO941.out; subst eo19; obtain ⟨Ao20, co20, eo20⟩ := Kd.R_slice HO944.out; subst eo20; obtain ⟨Ao21, co21, eo21⟩ := Kd.R_slice HO947.out; subst eo21) | ((with_reducible refine gate_callee (f := 24) rfl ?_); refine gl (some 28) Try.func24 #[.agg #[.slice Ao17 t929.length co17, .int .i64 t932, .int .i64 t933, .int .i64 t934, .slice Ao18 t935.length co18, .bool t938, .slice Ao19 t939.length co19, .slice Ao20 t942.length co20, .slice Ao21 t945.length co21], .int .i64 a1, .int .i64 a2] ?_; (with_reducible refine (spec_Withdraw.calls k _ _ t929 t932 t933 t934 _ _ t935 t938 _ _ t939 _ _ t942 _ _ t945 a1 a2 t948 t951 t952 t953 t954 t957 t958 t961 t964 t967 _ ?side1 ?side2 ?side3 ?side4 ?side5 ?side6 ?side7 ?side8 ?side9 ?side10 A11.out).mono ?_); (case side1 => exact cr HO931); (case side2 => exact cl HO931); (case side3 => exact cr HO937); (case side4 => exact cl HO937); (case side5 => exact cr HO941); (case side6 => exact cl HO941); (case side7 => exact cr HO944); (case side8 => exact cl HO944); (case side9 => exact cr HO947); (case side10 => exact cl HO947); rintro e w22 ⟨v949, v955, v959, v962, v965, rfl, ho0, ho1, ho2, ho3, ho4, hb⟩; refine ⟨_, rfl, ?_⟩; have HO950 := dk (Kd.R_lower (Kd.R_new' ho0 (rt HO931)) (below_size (bb HB))); replace HO931 := ke HO931 ho0 hb; have HO956 := dk (Kd.R_lower (Kd.R_new' (Kd.R_new' (Kd.R_new' ho1 (rt HO937)) (rt HO944)) (rt HO947)) (below_size (bb HB))); have HO960 := dk (Kd.R_lower (Kd.R_new' ho2 (rt HO941)) (below_size (bb HB))); replace HO941 := ke HO941 ho2 hb; have HO963 := dk (Kd.R_lower (Kd.R_new' (Kd.R_new' (Kd.R_new' ho3 (rt HO937)) (rt HO944)) (rt HO947)) (below_size (bb HB))); have HO966 := dk (Kd.R_lower (Kd.R_new' (Kd.R_new' (Kd.R_new' ho4 (rt HO937)) (rt HO944)) (rt HO947)) (below_size (bb HB))); replace HO937 := dk (Kd.R_mono (Kd.R_told (Kd.R_told (Kd.R_told (Kd.R_old (rr HO937) hb) (Kd.R_base ho1)) (Kd.R_base ho3)) (Kd.R_base ho4)) (fun _ h_ => h_.1)); replace HO944 := dk (Kd.R_mono (Kd.R_told (Kd.R_told (Kd.R_told (Kd.R_old (rr HO944) hb) (Kd.R_base ho1)) (Kd.R_base ho3)) (Kd.R_base ho4)) (fun _ h_ => h_.1)); replace HO947 := dk (Kd.R_mono (Kd.R_told (Kd.R_told (Kd.R_told (Kd.R_old (rr HO947) hb) (Kd.R_base ho1)) (Kd.R_base ho3)) (Kd.R_base ho4)) (fun _ h_ => h_.1)); replace BK927 := kb BK927 hb; replace HB := hs_ HB hb; (try clear hb hb2 hk hi ho0 ho1 ho2 ho3 ho4)) | ((with_reducible refine gate_dst (N := 8) rfl ?_); refine bx (N := 8) (cs := #[.slice none 0 0, .int .i64 0, .int .i64 0, .int .i64 0, .slice none 0 0, .bool false, .slice none 0 0, .slice none 0 0, .slice none 0 0]) (t := 36) ?_; intro gb968 hg w23 hbox hb; replace HO931 := kr HO931 hb; replace HO937 := kr HO937 hb; replace HO941 := kr HO941 hb; replace HO944 := kr HO944 hb; replace HO947 := kr HO947 hb; replace HO950 := kr HO950 hb; replace HO956 := kr HO956 hb; replace HO960 := kr HO960 hb; replace HO963 := kr HO963 hb; replace HO966 := kr HO966 hb; have BK968 := dk (hbox); have GW968 := gs hg HB; have GE968 := gs hg HB; replace HB := hs_ HB hb; have NB927_968 := gn hg BK927; have NB968_927 := gm hg BK927; replace BK927 := kb BK927 hb; clear hb hbox hg; obtain ⟨Ao24, co24, eo24⟩ := Kd.R_slice HO950.out; subst eo24; have hnb25 := NB968_927.out; have hnc25 := NB927_968.out; have ⟨z26_0, z26_1, z26_2, z26_3, z26_4, z26_5, z26_6, z26_7, z26_8, v26_0, v26_1, v26_2, v26_3, v26_4, v26_5, v26_6, v26_7, v26_8⟩ := rz9 BK968; obtain ⟨Ao27, co27, eo27⟩ := Kd.R_slice HO956.out; subst eo27; obtain ⟨Ao28, co28, eo28⟩ := Kd.R_slice HO960.out; subst eo28; obtain ⟨Ao29, co29, eo29⟩ := Kd.R_slice HO963.out; subst eo29; obtain ⟨Ao30, co30, eo30⟩ := Kd.R_slice HO966.out; subst eo30; have ⟨z31_0, z31_1, z31_2, z31_3, z31_4, z31_5, z31_6, z31_7, z31_8, v31_0, v31_1, v31_2, v31_3, v31_4, v31_5, v31_6, v31_7, v31_8⟩ := rz9 BK927) | ((with_reducible refine gate_callee (f := 13) rfl ?_); refine gl (some 32) Try.func13 #[.agg #[.slice A0_0 l0_0.length c0_0, .int .i64 a0_1, .int .i64 a0_2, .int .i64 a0_3, .slice A0_4 l0_4.length c0_4, .bool a0_5, .slice A0_6 l0_6.length c0_6, .slice A0_7 l0_7.length c0_7, .slice A0_8 l0_8.length c0_8]] ?_; (with_reducible refine (laws_toBook.calls k _ _ l0_0 a0_1 a0_2 a0_3 _ _ l0_4 a0_5 _ _ l0_6 _ _ l0_7 _ _ l0_8 t969 t972 t973 t974 t975 t978 t979 t982 t985 _ ?side1 ?side2 ?side3 ?side4 ?side5 ?side6 ?side7 ?side8 ?side9 ?side10 A12.out).mono ?_); (case side1 => exact Kd.C_below HR0_0.out (bb HB)); (case side2 => exact HC0_0.out); (case side3 => exact Kd.C_below HR0_4.out (bb HB)); (case side4 => exact HC0_4.out); (case side5 => exact Kd.C_below HR0_6.out (bb HB)); (case side6 => exact HC0_6.out); (case side7 => exact Kd.C_below HR0_7.out (bb HB)); (case side8 => exact HC0_7.out); (case side9 => exact Kd.C_below HR0_8.out (bb HB)); (case side10 => exact HC0_8.out); rintro e w32 ⟨v970, v976, v980, v983, v986, rfl, ho0, ho1, ho2, ho3, ho4, hb⟩; refine ⟨_, rfl, ?_⟩; have HO971 := dk (Kd.R_lower (Kd.R_new' (Kd.R_new' ho0 (Kd.R_lt (rf HO931 BK968 (fun _ h_ => h_.1)))) (Kd.R_lt (rf HO950 BK968 (fun _ h_ => h_.1)))) (below_size (bb HB))); replace HO931 := dk (Kd.R_elder' (rf HO931 BK968 (fun _ h_ => h_.1)) (Kd.R_base ho0) hb); replace HO950 := dk (Kd.R_elder' (rf HO950 BK968 (fun _ h_ => h_.1)) (Kd.R_base ho0) hb); have HO977 := dk (Kd.R_lower (Kd.R_new' (Kd.R_new' (Kd.R_new' (Kd.R_new' (Kd.R_new' (Kd.R_new' ho1 (Kd.R_lt (rf HO937 BK968 (fun _ h_ => h_.1)))) (Kd.R_lt (rf HO944 BK968 (fun _ h_ => h_.1)))) (Kd.R_lt (rf HO947 BK968 (fun _ h_ => h_.1)))) (Kd.R_lt (rf HO956 BK968 (fun _ h_ => h_.1)))) (Kd.R_lt (rf HO963 BK968 (fun _ h_ => h_.1)))) (Kd.R_lt (rf HO966 BK968 (fun _ h_ => h_.1)))) (below_size (bb HB))); have HO981 := dk (Kd.R_lower (Kd.R_new' (Kd.R_new' ho2 (Kd.R_lt (rf HO941 BK968 (fun _ h_ => h_.1)))) (Kd.R_lt (rf HO960 BK968 (fun _ h_ => h_.1)))) (below_size (bb HB))); replace HO941 := dk (Kd.R_elder' (rf HO941 BK968 (fun _ h_ => h_.1)) (Kd.R_base ho2) hb); replace HO960 := dk (Kd.R_elder' (rf HO960 BK968 (fun _ h_ => h_.1)) (Kd.R_base ho2) hb); have HO984 := dk (Kd.R_lower (Kd.R_new' (Kd.R_new' (Kd.R_new' (Kd.R_new' (Kd.R_new' (Kd.R_new' ho3 (Kd.R_lt (rf HO937 BK968 (fun _ h_ => h_.1)))) (Kd.R_lt (rf HO944 BK968 (fun _ h_ => h_.1)))) (Kd.R_lt (rf HO947 BK968 (fun _ h_ => h_.1)))) (Kd.R_lt (rf HO956 BK968 (fun _ h_ => h_.1)))) (Kd.R_lt (rf HO963 BK968 (fun _ h_ => h_.1)))) (Kd.R_lt (rf HO966 BK968 (fun _ h_ => h_.1)))) (below_size (bb HB))); have HO987 := dk (Kd.R_lower (Kd.R_new' (Kd.R_new' (Kd.R_new' (Kd.R_new' (Kd.R_new' (Kd.R_new' ho4 (Kd.R_lt (rf HO937 BK968 (fun _ h_ => h_.1)))) (Kd.R_lt (rf HO944 BK968 (fun _ h_ => h_.1)))) (Kd.R_lt (rf HO947 BK968 (fun _ h_ => h_.1)))) (Kd.R_lt (rf HO956 BK968 (fun _ h_ => h_.1)))) (Kd.R_lt (rf HO963 BK968 (fun _ h_ => h_.1)))) (Kd.R_lt (rf HO966 BK968 (fun _ h_ => h_.1)))) (below_size (bb HB))); replace HO937 := dk (Kd.R_mono (Kd.R_told (Kd.R_told (Kd.R_told (Kd.R_old (rf HO937 BK968 (fun _ h_ => h_.1)) hb) (Kd.R_base ho1)) (Kd.R_base ho3)) (Kd.R_base ho4)) (fun _ h_ => h_.1)); replace HO944 := dk (Kd.R_mono (Kd.R_told (Kd.R_told (Kd.R_told (Kd.R_old (rf HO944 BK968 (fun _ h_ => h_.1)) hb) (Kd.R_base ho1)) (Kd.R_base ho3)) (Kd.R_base ho4)) (fun _ h_ => h_.1)); replace HO947 := dk (Kd.R_mono (Kd.R_told (Kd.R_told (Kd.R_told (Kd.R_old (rf HO947 BK968 (fun _ h_ => h_.1)) hb) (Kd.R_base ho1)) (Kd.R_base ho3)) (Kd.R_base ho4)) (fun _ h_ => h_.1)); replace HO956 := dk (Kd.R_mono (Kd.R_told (Kd.R_told (Kd.R_told (Kd.R_old (rf HO956 BK968 (fun _ h_ => h_.1)) hb) (Kd.R_base ho1)) (Kd.R_base ho3)) (Kd.R_base ho4)) (fun _ h_ => h_.1)); replace HO963 := dk (Kd.R_mono (Kd.R_told (Kd.R_told (Kd.R_told (Kd.R_old (rf HO963 BK968 (fun _ h_ => h_.1)) hb) (Kd.R_base ho1)) (Kd.R_base ho3)) (Kd.R_base ho4)) (fun _ h_ => h_.1)); replace HO966 := dk (Kd.R_mono (Kd.R_told (Kd.R_told (Kd.R_told (Kd.R_old (rf HO966 BK968 (fun _ h_ => h_.1)) hb) (Kd.R_base ho1)) (Kd.R_base ho3)) (Kd.R_base ho4)) (fun _ h_ => h_.1)); replace BK927 := dk (blk_below (bf NB927_968.out BK927) hb); replace BK968 := dk (blk_below (g := gb968) (o := .cells #[.slice Ao24 t948.length co24, .int .i64 t951, .int .i64 t952, .int .i64 t953, .slice Ao27 t954.length co27, .bool t957, .slice Ao28 t958.length co28, .slice Ao29 t961.length co29, .slice Ao30 t964.length co30] 36 (0, 0)) (bp BK968) hb); replace HB := hs_ HB hb; (try clear hb hb2 hk hi ho0 ho1 ho2 ho3 ho4)) | ((with_reducible refine gate_dst (N := 10) rfl ?_); refine bx (N := 10) (cs := #[.slice none 0 0, .int .i64 0, .int .i64 0, .int .i64 0, .slice none 0 0, .bool false, .slice none 0 0, .slice none 0 0, .slice none 0 0]) (t := 36) ?_; intro gb988 hg w33 hbox hb; replace HO931 := kr HO931 hb; replace HO937 := kr HO937 hb; replace HO941 := kr HO941 hb; replace HO944 := kr HO944 hb; replace HO947 := kr HO947 hb; replace HO950 := kr HO950 hb; replace HO956 := kr HO956 hb; replace HO960 := kr HO960 hb; replace HO963 := kr HO963 hb; replace HO966 := kr HO966 hb; replace HO971 := kr HO971 hb; replace HO977 := kr HO977 hb; replace HO981 := kr HO981 hb; replace HO984 := kr HO984 hb; replace HO987 := kr HO987 hb; have BK988 := dk (hbox); have GW988 := gs hg HB; have GE988 := gs hg HB; replace HB := hs_ HB hb; have NB927_988 := gn hg BK927; have NB988_927 := gm hg BK927; replace BK927 := kb BK927 hb; have NB968_988 := gn hg BK968; have NB988_968 := gm hg BK968; replace BK968 := kb BK968 hb; clear hb hbox hg; obtain ⟨Ao34, co34, eo34⟩ := Kd.R_slice HO971.out; subst eo34; have hnb35 := NB988_927.out; have hnc35 := NB927_988.out; have hnb36 := NB988_968.out; have hnc36 := NB968_988.out; have ⟨z37_0, z37_1, z37_2, z37_3, z37_4, z37_5, z37_6, z37_7, z37_8, v37_0, v37_1, v37_2, v37_3, v37_4, v37_5, v37_6, v37_7, v37_8⟩ := rz9 BK988; obtain ⟨Ao38, co38, eo38⟩ := Kd.R_slice HO977.out; subst eo38; obtain ⟨Ao39, co39, eo39⟩ := Kd.R_slice HO981.out; subst eo39; obtain ⟨Ao40, co40, eo40⟩ := Kd.R_slice HO984.out; subst eo40; obtain ⟨Ao41, co41, eo41⟩ := Kd.R_slice HO987.out; subst eo41) | ((with_reducible refine gate_callee (f := 25) rfl ?_); refine gl (some 37) Try.func25 #[.agg #[.slice Ao34 t969.length co34, .int .i64 t972, .int .i64 t973, .int .i64 t974, .slice Ao38 t975.length co38, .bool t978, .slice Ao39 t979.length co39, .slice Ao40 t982.length co40, .slice Ao41 t985.length co41], .int .i64 a1, .int .i64 a2] ?_; (with_reducible refine (impl_Withdraw.calls k _ _ t969 t972 t973 t974 _ _ t975 t978 _ _ t979 _ _ t982 _ _ t985 a1 a2 t989 t992 t993 t994 t995 t998 t999 t1002 t1005 t1008 _ ?side1 ?side2 ?side3 ?side4 ?side5 ?side6 ?side7 ?side8 ?side9 ?side10 A13.out).mono ?_); (case side1 => exact cf HO971 BK988); (case side2 => exact cl HO971); (case side3 => exact cf HO977 BK988); (case side4 => exact cl HO977); (case side5 => exact cf HO981 BK988); (case side6 => exact cl HO981); (case side7 => exact cf HO984 BK988); (case side8 => exact cl HO984); (case side9 => exact cf HO987 BK988); (case side10 => exact cl HO987); rintro e w42 ⟨v990, v996, v1000, v1003, v1006, rfl, ho0, ho1, ho2, ho3, ho4, hb⟩; refine ⟨_, rfl, ?_⟩; have HO991 := dk (Kd.R_lower (Kd.R_new' (Kd.R_new' (Kd.R_new' ho0 (Kd.R_lt (rf HO931 BK988 (fun _ h_ => h_.1)))) (Kd.R_lt (rf HO950 BK988 (fun _ h_ => h_.1)))) (Kd.R_lt (rf HO971 BK988 (fun _ h_ => h_.1)))) (below_size (bb HB))); replace HO931 := dk (Kd.R_elder' (rf HO931 BK988 (fun _ h_ => h_.1)) (Kd.R_base ho0) hb); replace HO950 := dk (Kd.R_elder' (rf HO950 BK988 (fun _ h_ => h_.1)) (Kd.R_base ho0) hb); replace HO971 := dk (Kd.R_elder' (rf HO971 BK988 (fun _ h_ => h_.1)) (Kd.R_base ho0) hb); have HO997 := dk (Kd.R_lower (Kd.R_new' (Kd.R_new' (Kd.R_new' (Kd.R_new' (Kd.R_new' (Kd.R_new' (Kd.R_new' (Kd.R_new' (Kd.R_new' ho1 (Kd.R_lt (rf HO937 BK988 (fun _ h_ => h_.1)))) (Kd.R_lt (rf HO944 BK988 (fun _ h_ => h_.1)))) (Kd.R_lt (rf HO947 BK988 (fun _ h_ => h_.1)))) (Kd.R_lt (rf HO956 BK988 (fun _ h_ => h_.1)))) (Kd.R_lt (rf HO963 BK988 (fun _ h_ => h_.1)))) (Kd.R_lt (rf HO966 BK988 (fun _ h_ => h_.1)))) (Kd.R_lt (rf HO977 BK988 (fun _ h_ => h_.1)))) (Kd.R_lt (rf HO984 BK988 (fun _ h_ => h_.1)))) (Kd.R_lt (rf HO987 BK988 (fun _ h_ => h_.1)))) (below_size (bb HB))); have HO1001 := dk (Kd.R_lower (Kd.R_new' (Kd.R_new' (Kd.R_new' ho2 (Kd.R_lt (rf HO941 BK988 (fun _ h_ => h_.1)))) (Kd.R_lt (rf HO960 BK988 (fun _ h_ => h_.1)))) (Kd.R_lt (rf HO981 BK988 (fun _ h_ => h_.1)))) (below_size (bb HB))); replace HO941 := dk (Kd.R_elder' (rf HO941 BK988 (fun _ h_ => h_.1)) (Kd.R_base ho2) hb); replace HO960 := dk (Kd.R_elder' (rf HO960 BK988 (fun _ h_ => h_.1)) (Kd.R_base ho2) hb); replace HO981 := dk (Kd.R_elder' (rf HO981 BK988 (fun _ h_ => h_.1)) (Kd.R_base ho2) hb); have HO1004 := dk (Kd.R_lower (Kd.R_new' (Kd.R_new' (Kd.R_new' (Kd.R_new' (Kd.R_new' (Kd.R_new' (Kd.R_new' (Kd.R_new' (Kd.R_new' ho3 (Kd.R_lt (rf HO937 BK988 (fun _ h_ => h_.1)))) (Kd.R_lt (rf HO944 BK988 (fun _ h_ => h_.1)))) (Kd.R_lt (rf HO947 BK988 (fun _ h_ => h_.1)))) (Kd.R_lt (rf HO956 BK988 (fun _ h_ => h_.1)))) (Kd.R_lt (rf HO963 BK988 (fun _ h_ => h_.1)))) (Kd.R_lt (rf HO966 BK988 (fun _ h_ => h_.1)))) (Kd.R_lt (rf HO977 BK988 (fun _ h_ => h_.1)))) (Kd.R_lt (rf HO984 BK988 (fun _ h_ => h_.1)))) (Kd.R_lt (rf HO987 BK988 (fun _ h_ => h_.1)))) (below_size (bb HB))); have HO1007 := dk (Kd.R_lower (Kd.R_new' (Kd.R_new' (Kd.R_new' (Kd.R_new' (Kd.R_new' (Kd.R_new' (Kd.R_new' (Kd.R_new' (Kd.R_new' ho4 (Kd.R_lt (rf HO937 BK988 (fun _ h_ => h_.1)))) (Kd.R_lt (rf HO944 BK988 (fun _ h_ => h_.1)))) (Kd.R_lt (rf HO947 BK988 (fun _ h_ => h_.1)))) (Kd.R_lt (rf HO956 BK988 (fun _ h_ => h_.1)))) (Kd.R_lt (rf HO963 BK988 (fun _ h_ => h_.1)))) (Kd.R_lt (rf HO966 BK988 (fun _ h_ => h_.1)))) (Kd.R_lt (rf HO977 BK988 (fun _ h_ => h_.1)))) (Kd.R_lt (rf HO984 BK988 (fun _ h_ => h_.1)))) (Kd.R_lt (rf HO987 BK988 (fun _ h_ => h_.1)))) (below_size (bb HB))); replace HO937 := dk (Kd.R_mono (Kd.R_told (Kd.R_told (Kd.R_told (Kd.R_old (rf HO937 BK988 (fun _ h_ => h_.1)) hb) (Kd.R_base ho1)) (Kd.R_base ho3)) (Kd.R_base ho4)) (fun _ h_ => h_.1)); replace HO944 := dk (Kd.R_mono (Kd.R_told (Kd.R_told (Kd.R_told (Kd.R_old (rf HO944 BK988 (fun _ h_ => h_.1)) hb) (Kd.R_base ho1)) (Kd.R_base ho3)) (Kd.R_base ho4)) (fun _ h_ => h_.1)); replace HO947 := dk (Kd.R_mono (Kd.R_told (Kd.R_told (Kd.R_told (Kd.R_old (rf HO947 BK988 (fun _ h_ => h_.1)) hb) (Kd.R_base ho1)) (Kd.R_base ho3)) (Kd.R_base ho4)) (fun _ h_ => h_.1)); replace HO956 := dk (Kd.R_mono (Kd.R_told (Kd.R_told (Kd.R_told (Kd.R_old (rf HO956 BK988 (fun _ h_ => h_.1)) hb) (Kd.R_base ho1)) (Kd.R_base ho3)) (Kd.R_base ho4)) (fun _ h_ => h_.1)); replace HO963 := dk (Kd.R_mono (Kd.R_told (Kd.R_told (Kd.R_told (Kd.R_old (rf HO963 BK988 (fun _ h_ => h_.1)) hb) (Kd.R_base ho1)) (Kd.R_base ho3)) (Kd.R_base ho4)) (fun _ h_ => h_.1)); replace HO966 := dk (Kd.R_mono (Kd.R_told (Kd.R_told (Kd.R_told (Kd.R_old (rf HO966 BK988 (fun _ h_ => h_.1)) hb) (Kd.R_base ho1)) (Kd.R_base ho3)) (Kd.R_base ho4)) (fun _ h_ => h_.1)); replace HO977 := dk (Kd.R_mono (Kd.R_told (Kd.R_told (Kd.R_told (Kd.R_old (rf HO977 BK988 (fun _ h_ => h_.1)) hb) (Kd.R_base ho1)) (Kd.R_base ho3)) (Kd.R_base ho4)) (fun _ h_ => h_.1)); replace HO984 := dk (Kd.R_mono (Kd.R_told (Kd.R_told (Kd.R_told (Kd.R_old (rf HO984 BK988 (fun _ h_ => h_.1)) hb) (Kd.R_base ho1)) (Kd.R_base ho3)) (Kd.R_base ho4)) (fun _ h_ => h_.1)); replace HO987 := dk (Kd.R_mono (Kd.R_told (Kd.R_told (Kd.R_told (Kd.R_old (rf HO987 BK988 (fun _ h_ => h_.1)) hb) (Kd.R_base ho1)) (Kd.R_base ho3)) (Kd.R_base ho4)) (fun _ h_ => h_.1)); replace BK927 := dk (blk_below (bf NB927_988.out BK927) hb); replace BK968 := dk (blk_below (bf NB968_988.out BK968) hb); replace BK988 := dk (blk_below (g := gb988) (o := .cells #[.slice Ao34 t969.length co34, .int .i64 t972, .int .i64 t973, .int .i64 t974, .slice Ao38 t975.length co38, .bool t978, .slice Ao39 t979.length co39, .slice Ao40 t982.length co40, .slice Ao41 t985.length co41] 36 (0, 0)) (bp BK988) hb); replace HB := hs_ HB hb; (try clear hb hb2 hk hi ho0 ho1 ho2 ho3 ho4)) | ((with_reducible refine gate_dst (N := 11) rfl ?_); refine bx (N := 11) (cs := #[.slice none 0 0, .int .i64 0, .int .i64 0, .int .i64 0, .slice none 0 0, .bool false, .slice none 0 0, .slice none 0 0, .slice none 0 0]) (t := 36) ?_; intro gb1009 hg w43 hbox hb; replace HO931 := kr HO931 hb; replace HO937 := kr HO937 hb; replace HO941 := kr HO941 hb; replace HO944 := kr HO944 hb; replace HO947 := kr HO947 hb; replace HO950 := kr HO950 hb; replace HO956 := kr HO956 hb; replace HO960 := kr HO960 hb; replace HO963 := kr HO963 hb; replace HO966 := kr HO966 hb; replace HO971 := kr HO971 hb; replace HO977 := kr HO977 hb; replace HO981 := kr HO981 hb; replace HO984 := kr HO984 hb; replace HO987 := kr HO987 hb; replace HO991 := kr HO991 hb; replace HO997 := kr HO997 hb; replace HO1001 := kr HO1001 hb; replace HO1004 := kr HO1004 hb; replace HO1007 := kr HO1007 hb; have BK1009 := dk (hbox); have GW1009 := gs hg HB; have GE1009 := gs hg HB; replace HB := hs_ HB hb; have NB927_1009 := gn hg BK927; have NB1009_927 := gm hg BK927; replace BK927 := kb BK927 hb; have NB968_1009 := gn hg BK968; have NB1009_968 := gm hg BK968; replace BK968 := kb BK968 hb; have NB988_1009 := gn hg BK988; have NB1009_988 := gm hg BK988; replace BK988 := kb BK988 hb; clear hb hbox hg; obtain ⟨Ao44, co44, eo44⟩ := Kd.R_slice HO991.out; subst eo44; have hnb45 := NB1009_927.out; have hnc45 := NB927_1009.out; have hnb46 := NB1009_968.out; have hnc46 := NB968_1009.out; have hnb47 := NB1009_988.out; have hnc47 := NB988_1009.out; have ⟨z48_0, z48_1, z48_2, z48_3, z48_4, z48_5, z48_6, z48_7, z48_8, v48_0, v48_1, v48_2, v48_3, v48_4, v48_5, v48_6, v48_7, v48_8⟩ := rz9 BK1009; obtain ⟨Ao49, co49, eo49⟩ := Kd.R_slice HO997.out; subst eo49; obtain ⟨Ao50, co50, eo50⟩ := Kd.R_slice HO1001.out; subst eo50; obtain ⟨Ao51, co51, eo51⟩ := Kd.R_slice HO1004.out; subst eo51; obtain ⟨Ao52, co52, eo52⟩ := Kd.R_slice HO1007.out; subst eo52))
  (try simp only [Act.put, List.setIfInBounds_toArray, List.set_cons_zero, List.set_cons_succ])
  go_cut [48] (fun v48 wc => ∃ (kq : Nat) (x48_13 : Bool), v48 = .bool x48_13 ∧ Aside0 (laws_FnExactWithdraw.j0 kq a1 a2 t967 t1008 x48_13 l0_0 a0_1 a0_2 a0_3 l0_4 a0_5 l0_6 l0_7 l0_8 t948 t951 t952 t953 t954 t957 t958 t961 t964 t969 t972 t973 t974 t975 t978 t979 t982 t985 t989 t992 t993 t994 t995 t998 t999 t1002 t1005 = some r) ∧ Aside0 (kq ≤ k) ∧ Aside0 (Kd.R k139 139 wc w.heap.size (fun k_ => nb k_ Ao34 t969.length co34 ∧ nb k_ Ao44 t989.length co44) (.slice Ao24 t948.length co24) t948) ∧ Aside0 (Kd.R (Kd.int .i64) 3 wc w.heap.size (fun k_ => nb k_ Ao29 t961.length co29 ∧ nb k_ Ao30 t964.length co30 ∧ nb k_ Ao38 t975.length co38 ∧ nb k_ Ao40 t982.length co40 ∧ nb k_ Ao41 t985.length co41 ∧ nb k_ Ao49 t995.length co49 ∧ nb k_ Ao51 t1002.length co51 ∧ nb k_ Ao52 t1005.length co52) (.slice Ao27 t954.length co27) t954) ∧ Aside0 (Kd.R k95 95 wc w.heap.size (fun k_ => nb k_ Ao39 t979.length co39 ∧ nb k_ Ao50 t999.length co50) (.slice Ao28 t958.length co28) t958) ∧ Aside0 (Kd.R (Kd.int .i64) 3 wc w.heap.size (fun k_ => nb k_ Ao27 t954.length co27 ∧ nb k_ Ao30 t964.length co30 ∧ nb k_ Ao38 t975.length co38 ∧ nb k_ Ao40 t982.length co40 ∧ nb k_ Ao41 t985.length co41 ∧ nb k_ Ao49 t995.length co49 ∧ nb k_ Ao51 t1002.length co51 ∧ nb k_ Ao52 t1005.length co52) (.slice Ao29 t961.length co29) t961) ∧ Aside0 (Kd.R (Kd.int .i64) 3 wc w.heap.size (fun k_ => nb k_ Ao27 t954.length co27 ∧ nb k_ Ao29 t961.length co29 ∧ nb k_ Ao38 t975.length co38 ∧ nb k_ Ao40 t982.length co40 ∧ nb k_ Ao41 t985.length co41 ∧ nb k_ Ao49 t995.length co49 ∧ nb k_ Ao51 t1002.length co51 ∧ nb k_ Ao52 t1005.length co52) (.slice Ao30 t964.length co30) t964) ∧ Aside0 (Kd.R k139 139 wc w.heap.size (fun k_ => nb k_ Ao24 t948.length co24 ∧ nb k_ Ao44 t989.length co44) (.slice Ao34 t969.length co34) t969) ∧ Aside0 (Kd.R (Kd.int .i64) 3 wc w.heap.size (fun k_ => nb k_ Ao27 t954.length co27 ∧ nb k_ Ao29 t961.length co29 ∧ nb k_ Ao30 t964.length co30 ∧ nb k_ Ao40 t982.length co40 ∧ nb k_ Ao41 t985.length co41 ∧ nb k_ Ao49 t995.length co49 ∧ nb k_ Ao51 t1002.length co51 ∧ nb k_ Ao52 t1005.length co52) (.slice Ao38 t975.length co38) t975) ∧ Aside0 (Kd.R k95 95 wc w.heap.size (fun k_ => nb k_ Ao28 t958.length co28 ∧ nb k_ Ao50 t999.length co50) (.slice Ao39 t979.length co39) t979) ∧ Aside0 (Kd.R (Kd.int .i64) 3 wc w.heap.size (fun k_ => nb k_ Ao27 t954.length co27 ∧ nb k_ Ao29 t961.length co29 ∧ nb k_ Ao30 t964.length co30 ∧ nb k_ Ao38 t975.length co38 ∧ nb k_ Ao41 t985.length co41 ∧ nb k_ Ao49 t995.length co49 ∧ nb k_ Ao51 t1002.length co51 ∧ nb k_ Ao52 t1005.length co52) (.slice Ao40 t982.length co40) t982) ∧ Aside0 (Kd.R (Kd.int .i64) 3 wc w.heap.size (fun k_ => nb k_ Ao27 t954.length co27 ∧ nb k_ Ao29 t961.length co29 ∧ nb k_ Ao30 t964.length co30 ∧ nb k_ Ao38 t975.length co38 ∧ nb k_ Ao40 t982.length co40 ∧ nb k_ Ao49 t995.length co49 ∧ nb k_ Ao51 t1002.length co51 ∧ nb k_ Ao52 t1005.length co52) (.slice Ao41 t985.length co41) t985) ∧ Aside0 (Kd.R k139 139 wc w.heap.size (fun k_ => nb k_ Ao24 t948.length co24 ∧ nb k_ Ao34 t969.length co34) (.slice Ao44 t989.length co44) t989) ∧ Aside0 (Kd.R (Kd.int .i64) 3 wc w.heap.size (fun k_ => nb k_ Ao27 t954.length co27 ∧ nb k_ Ao29 t961.length co29 ∧ nb k_ Ao30 t964.length co30 ∧ nb k_ Ao38 t975.length co38 ∧ nb k_ Ao40 t982.length co40 ∧ nb k_ Ao41 t985.length co41 ∧ nb k_ Ao51 t1002.length co51 ∧ nb k_ Ao52 t1005.length co52) (.slice Ao49 t995.length co49) t995) ∧ Aside0 (Kd.R k95 95 wc w.heap.size (fun k_ => nb k_ Ao28 t958.length co28 ∧ nb k_ Ao39 t979.length co39) (.slice Ao50 t999.length co50) t999) ∧ Aside0 (Kd.R (Kd.int .i64) 3 wc w.heap.size (fun k_ => nb k_ Ao27 t954.length co27 ∧ nb k_ Ao29 t961.length co29 ∧ nb k_ Ao30 t964.length co30 ∧ nb k_ Ao38 t975.length co38 ∧ nb k_ Ao40 t982.length co40 ∧ nb k_ Ao41 t985.length co41 ∧ nb k_ Ao49 t995.length co49 ∧ nb k_ Ao52 t1005.length co52) (.slice Ao51 t1002.length co51) t1002) ∧ Aside0 (Kd.R (Kd.int .i64) 3 wc w.heap.size (fun k_ => nb k_ Ao27 t954.length co27 ∧ nb k_ Ao29 t961.length co29 ∧ nb k_ Ao30 t964.length co30 ∧ nb k_ Ao38 t975.length co38 ∧ nb k_ Ao40 t982.length co40 ∧ nb k_ Ao41 t985.length co41 ∧ nb k_ Ao49 t995.length co49 ∧ nb k_ Ao51 t1002.length co51) (.slice Ao52 t1005.length co52) t1005) ∧ Aside0 (wc.heap[gb927]? = some (.cells #[(.slice A0_0 l0_0.length c0_0), .int .i64 a0_1, .int .i64 a0_2, .int .i64 a0_3, (.slice A0_4 l0_4.length c0_4), .bool a0_5, (.slice A0_6 l0_6.length c0_6), (.slice A0_7 l0_7.length c0_7), (.slice A0_8 l0_8.length c0_8)] 28 (0, 0))) ∧ Aside0 (wc.heap[gb968]? = some (.cells #[(.slice Ao24 t948.length co24), .int .i64 t951, .int .i64 t952, .int .i64 t953, (.slice Ao27 t954.length co27), .bool t957, (.slice Ao28 t958.length co28), (.slice Ao29 t961.length co29), (.slice Ao30 t964.length co30)] 36 (0, 0))) ∧ Aside0 (wc.heap[gb988]? = some (.cells #[(.slice Ao34 t969.length co34), .int .i64 t972, .int .i64 t973, .int .i64 t974, (.slice Ao38 t975.length co38), .bool t978, (.slice Ao39 t979.length co39), (.slice Ao40 t982.length co40), (.slice Ao41 t985.length co41)] 36 (0, 0))) ∧ Aside0 (wc.heap[gb1009]? = some (.cells #[(.slice Ao44 t989.length co44), .int .i64 t992, .int .i64 t993, .int .i64 t994, (.slice Ao49 t995.length co49), .bool t998, (.slice Ao50 t999.length co50), (.slice Ao51 t1002.length co51), (.slice Ao52 t1005.length co52)] 36 (0, 0))) ∧ Aside0 (Below w.heap.size w wc))
  case first =>
   have H := HC14.out
   clear HC14
   replace H := Option.bind_eq_some_iff.mp H
   obtain ⟨t1010, A530, H⟩ := H
   try dsimp only at H
   have A53 := dk A530
   clear A530
   by_cases c54 : t1010 = true
   ·subst c54
    rw [if_pos rfl] at H
    have H' := dk H
    clear H
    have hnb55 := NB1009_927.out
    have hnc55 := NB927_1009.out
    have hnb56 := NB1009_968.out
    have hnc56 := NB968_1009.out
    have hnb57 := NB1009_988.out
    have hnc57 := NB988_1009.out
    have ⟨z58_0, z58_1, z58_2, z58_3, z58_4, z58_5, z58_6, z58_7, z58_8, v58_0, v58_1, v58_2, v58_3, v58_4, v58_5, v58_6, v58_7, v58_8⟩ := rz9 BK1009
    have hnb59 := NB968_927.out
    have hnc59 := NB927_968.out
    have hnb60 := NB968_988.out
    have hnc60 := NB988_968.out
    have ⟨z61_0, z61_1, z61_2, z61_3, z61_4, z61_5, z61_6, z61_7, z61_8, v61_0, v61_1, v61_2, v61_3, v61_4, v61_5, v61_6, v61_7, v61_8⟩ := rz9 BK968
    go_wp2_with (first | ((with_reducible refine gate_callee (f := 16) rfl ?_); refine gl (some 42) Try.func16 #[.agg #[.slice Ao44 t989.length co44, .int .i64 t992, .int .i64 t993, .int .i64 t994, .slice Ao49 t995.length co49, .bool t998, .slice Ao50 t999.length co50, .slice Ao51 t1002.length co51, .slice Ao52 t1005.length co52], .agg #[.slice Ao24 t948.length co24, .int .i64 t951, .int .i64 t952, .int .i64 t953, .slice Ao27 t954.length co27, .bool t957, .slice Ao28 t958.length co28, .slice Ao29 t961.length co29, .slice Ao30 t964.length co30]] ?_; (with_reducible refine (laws_eqBook.calls k _ _ t989 t992 t993 t994 _ _ t995 t998 _ _ t999 _ _ t1002 _ _ t1005 _ _ t948 t951 t952 t953 _ _ t954 t957 _ _ t958 _ _ t961 _ _ t964 true _ ?side1 ?side2 ?side3 ?side4 ?side5 ?side6 ?side7 ?side8 ?side9 ?side10 ?side11 ?side12 ?side13 ?side14 ?side15 ?side16 ?side17 ?side18 ?side19 ?side20 A53.out).mono ?_); (case side1 => exact cf HO991 BK1009); (case side2 => exact cl HO991); (case side3 => exact cf HO997 BK1009); (case side4 => exact cl HO997); (case side5 => exact cf HO1001 BK1009); (case side6 => exact cl HO1001); (case side7 => exact cf HO1004 BK1009); (case side8 => exact cl HO1004); (case side9 => exact cf HO1007 BK1009); (case side10 => exact cl HO1007); (case side11 => exact cf HO950 BK1009); (case side12 => exact cl HO950); (case side13 => exact cf HO956 BK1009); (case side14 => exact cl HO956); (case side15 => exact cf HO960 BK1009); (case side16 => exact cl HO960); (case side17 => exact cf HO963 BK1009); (case side18 => exact cl HO963); (case side19 => exact cf HO966 BK1009); (case side20 => exact cl HO966); rintro e w62 ⟨rfl, hb⟩; refine ⟨_, rfl, ?_⟩; replace HO931 := kf HO931 BK1009 hb; replace HO937 := kf HO937 BK1009 hb; replace HO941 := kf HO941 BK1009 hb; replace HO944 := kf HO944 BK1009 hb; replace HO947 := kf HO947 BK1009 hb; replace HO950 := kf HO950 BK1009 hb; replace HO956 := kf HO956 BK1009 hb; replace HO960 := kf HO960 BK1009 hb; replace HO963 := kf HO963 BK1009 hb; replace HO966 := kf HO966 BK1009 hb; replace HO971 := kf HO971 BK1009 hb; replace HO977 := kf HO977 BK1009 hb; replace HO981 := kf HO981 BK1009 hb; replace HO984 := kf HO984 BK1009 hb; replace HO987 := kf HO987 BK1009 hb; replace HO991 := kf HO991 BK1009 hb; replace HO997 := kf HO997 BK1009 hb; replace HO1001 := kf HO1001 BK1009 hb; replace HO1004 := kf HO1004 BK1009 hb; replace HO1007 := kf HO1007 BK1009 hb; replace BK927 := dk (blk_below (bf NB927_1009.out BK927) hb); replace BK968 := dk (blk_below (bf NB968_1009.out BK968) hb); replace BK988 := dk (blk_below (bf NB988_1009.out BK988) hb); replace BK1009 := dk (blk_below (g := gb1009) (o := .cells #[.slice Ao44 t989.length co44, .int .i64 t992, .int .i64 t993, .int .i64 t994, .slice Ao49 t995.length co49, .bool t998, .slice Ao50 t999.length co50, .slice Ao51 t1002.length co51, .slice Ao52 t1005.length co52] 36 (0, 0)) (bp BK1009) hb); replace HB := hs_ HB hb; (try clear hb hb2 hk hi)))
    go_meet
    case rel => exact ⟨_, ((t1008 != t967)), e2_, H', ⟨by first | omega | exact Nat.le_refl _⟩, ⟨ro HO950 (fun _ hk => ⟨hk.1.2, hk.2⟩)⟩, ⟨rp HO956⟩, ⟨ro HO960 (fun _ hk => ⟨hk.1.2, hk.2⟩)⟩, ⟨rp HO963⟩, ⟨rp HO966⟩, ⟨ro HO971 (fun _ hk => ⟨hk.1.2, hk.2⟩)⟩, ⟨rp HO977⟩, ⟨ro HO981 (fun _ hk => ⟨hk.1.2, hk.2⟩)⟩, ⟨rp HO984⟩, ⟨rp HO987⟩, ⟨ro HO991 (fun _ hk => ⟨hk.1.2, hk.2⟩)⟩, ⟨rp HO997⟩, ⟨ro HO1001 (fun _ hk => ⟨hk.1.2, hk.2⟩)⟩, ⟨rp HO1004⟩, ⟨rp HO1007⟩, ⟨bk BK927⟩, ⟨bk BK968⟩, ⟨bk BK988⟩, ⟨bk BK1009⟩, ⟨bb HB⟩⟩
   ·replace c54 := Bool.eq_false_iff.mpr c54
    subst c54
    rw [if_neg (show ¬ (false = true) by decide)] at H
    have H' := dk H
    clear H
    have hnb63 := NB1009_927.out
    have hnc63 := NB927_1009.out
    have hnb64 := NB1009_968.out
    have hnc64 := NB968_1009.out
    have hnb65 := NB1009_988.out
    have hnc65 := NB988_1009.out
    have ⟨z66_0, z66_1, z66_2, z66_3, z66_4, z66_5, z66_6, z66_7, z66_8, v66_0, v66_1, v66_2, v66_3, v66_4, v66_5, v66_6, v66_7, v66_8⟩ := rz9 BK1009
    have hnb67 := NB968_927.out
    have hnc67 := NB927_968.out
    have hnb68 := NB968_988.out
    have hnc68 := NB988_968.out
    have ⟨z69_0, z69_1, z69_2, z69_3, z69_4, z69_5, z69_6, z69_7, z69_8, v69_0, v69_1, v69_2, v69_3, v69_4, v69_5, v69_6, v69_7, v69_8⟩ := rz9 BK968
    go_wp2_with (first | ((with_reducible refine gate_callee (f := 16) rfl ?_); refine gl (some 42) Try.func16 #[.agg #[.slice Ao44 t989.length co44, .int .i64 t992, .int .i64 t993, .int .i64 t994, .slice Ao49 t995.length co49, .bool t998, .slice Ao50 t999.length co50, .slice Ao51 t1002.length co51, .slice Ao52 t1005.length co52], .agg #[.slice Ao24 t948.length co24, .int .i64 t951, .int .i64 t952, .int .i64 t953, .slice Ao27 t954.length co27, .bool t957, .slice Ao28 t958.length co28, .slice Ao29 t961.length co29, .slice Ao30 t964.length co30]] ?_; (with_reducible refine (laws_eqBook.calls k _ _ t989 t992 t993 t994 _ _ t995 t998 _ _ t999 _ _ t1002 _ _ t1005 _ _ t948 t951 t952 t953 _ _ t954 t957 _ _ t958 _ _ t961 _ _ t964 false _ ?side1 ?side2 ?side3 ?side4 ?side5 ?side6 ?side7 ?side8 ?side9 ?side10 ?side11 ?side12 ?side13 ?side14 ?side15 ?side16 ?side17 ?side18 ?side19 ?side20 A53.out).mono ?_); (case side1 => exact cf HO991 BK1009); (case side2 => exact cl HO991); (case side3 => exact cf HO997 BK1009); (case side4 => exact cl HO997); (case side5 => exact cf HO1001 BK1009); (case side6 => exact cl HO1001); (case side7 => exact cf HO1004 BK1009); (case side8 => exact cl HO1004); (case side9 => exact cf HO1007 BK1009); (case side10 => exact cl HO1007); (case side11 => exact cf HO950 BK1009); (case side12 => exact cl HO950); (case side13 => exact cf HO956 BK1009); (case side14 => exact cl HO956); (case side15 => exact cf HO960 BK1009); (case side16 => exact cl HO960); (case side17 => exact cf HO963 BK1009); (case side18 => exact cl HO963); (case side19 => exact cf HO966 BK1009); (case side20 => exact cl HO966); rintro e w70 ⟨rfl, hb⟩; refine ⟨_, rfl, ?_⟩; replace HO931 := kf HO931 BK1009 hb; replace HO937 := kf HO937 BK1009 hb; replace HO941 := kf HO941 BK1009 hb; replace HO944 := kf HO944 BK1009 hb; replace HO947 := kf HO947 BK1009 hb; replace HO950 := kf HO950 BK1009 hb; replace HO956 := kf HO956 BK1009 hb; replace HO960 := kf HO960 BK1009 hb; replace HO963 := kf HO963 BK1009 hb; replace HO966 := kf HO966 BK1009 hb; replace HO971 := kf HO971 BK1009 hb; replace HO977 := kf HO977 BK1009 hb; replace HO981 := kf HO981 BK1009 hb; replace HO984 := kf HO984 BK1009 hb; replace HO987 := kf HO987 BK1009 hb; replace HO991 := kf HO991 BK1009 hb; replace HO997 := kf HO997 BK1009 hb; replace HO1001 := kf HO1001 BK1009 hb; replace HO1004 := kf HO1004 BK1009 hb; replace HO1007 := kf HO1007 BK1009 hb; replace BK927 := dk (blk_below (bf NB927_1009.out BK927) hb); replace BK968 := dk (blk_below (bf NB968_1009.out BK968) hb); replace BK988 := dk (blk_below (bf NB988_1009.out BK988) hb); replace BK1009 := dk (blk_below (g := gb1009) (o := .cells #[.slice Ao44 t989.length co44, .int .i64 t992, .int .i64 t993, .int .i64 t994, .slice Ao49 t995.length co49, .bool t998, .slice Ao50 t999.length co50, .slice Ao51 t1002.length co51, .slice Ao52 t1005.length co52] 36 (0, 0)) (bp BK1009) hb); replace HB := hs_ HB hb; (try clear hb hb2 hk hi)))
    go_meet
    case rel => exact ⟨_, (true), e2_, H', ⟨by first | omega | exact Nat.le_refl _⟩, ⟨ro HO950 (fun _ hk => ⟨hk.1.2, hk.2⟩)⟩, ⟨rp HO956⟩, ⟨ro HO960 (fun _ hk => ⟨hk.1.2, hk.2⟩)⟩, ⟨rp HO963⟩, ⟨rp HO966⟩, ⟨ro HO971 (fun _ hk => ⟨hk.1.2, hk.2⟩)⟩, ⟨rp HO977⟩, ⟨ro HO981 (fun _ hk => ⟨hk.1.2, hk.2⟩)⟩, ⟨rp HO984⟩, ⟨rp HO987⟩, ⟨ro HO991 (fun _ hk => ⟨hk.1.2, hk.2⟩)⟩, ⟨rp HO997⟩, ⟨ro HO1001 (fun _ hk => ⟨hk.1.2, hk.2⟩)⟩, ⟨rp HO1004⟩, ⟨rp HO1007⟩, ⟨bk BK927⟩, ⟨bk BK968⟩, ⟨bk BK988⟩, ⟨bk BK1009⟩, ⟨bb HB⟩⟩
  case rest =>
   clear HC14
   (try clear c1)
   (try clear c2)
   (try clear p2)
   (try clear c3)
   (try clear c4)
   (try clear c5)
   (try clear c6)
   (try clear c9)
   (try clear c9b0)
   (try clear c9b1)
   (try clear c10)
   (try clear c13)
   (try clear c16)
   (try clear c24)
   (try clear c25)
   (try clear c35)
   (try clear c36)
   (try clear c45)
   (try clear c46)
   (try clear c47)
   (try clear c54)
   (try clear c55)
   (try clear c56)
   (try clear c57)
   (try clear c59)
   (try clear c60)
   (try clear c63)
   (try clear c64)
   (try clear c65)
   (try clear c67)
   (try clear c68)
   (try clear z15_0 z15_1 z15_2 z15_3 z15_4 z15_5 z15_6 z15_7 z15_8)
   (try clear z26_0 z26_1 z26_2 z26_3 z26_4 z26_5 z26_6 z26_7 z26_8)
   (try clear z31_0 z31_1 z31_2 z31_3 z31_4 z31_5 z31_6 z31_7 z31_8)
   (try clear z37_0 z37_1 z37_2 z37_3 z37_4 z37_5 z37_6 z37_7 z37_8)
   (try clear z48_0 z48_1 z48_2 z48_3 z48_4 z48_5 z48_6 z48_7 z48_8)
   (try clear z58_0 z58_1 z58_2 z58_3 z58_4 z58_5 z58_6 z58_7 z58_8)
   (try clear z61_0 z61_1 z61_2 z61_3 z61_4 z61_5 z61_6 z61_7 z61_8)
   (try clear z66_0 z66_1 z66_2 z66_3 z66_4 z66_5 z66_6 z66_7 z66_8)
   (try clear z69_0 z69_1 z69_2 z69_3 z69_4 z69_5 z69_6 z69_7 z69_8)
   (try clear z7_0 z7_1 z7_2 z7_3 z7_4 z7_5 z7_6 z7_7 z7_8)
   (try clear v15_0 v15_1 v15_2 v15_3 v15_4 v15_5 v15_6 v15_7 v15_8)
   (try clear v26_0 v26_1 v26_2 v26_3 v26_4 v26_5 v26_6 v26_7 v26_8)
   (try clear v31_0 v31_1 v31_2 v31_3 v31_4 v31_5 v31_6 v31_7 v31_8)
   (try clear v37_0 v37_1 v37_2 v37_3 v37_4 v37_5 v37_6 v37_7 v37_8)
   (try clear v48_0 v48_1 v48_2 v48_3 v48_4 v48_5 v48_6 v48_7 v48_8)
   (try clear v58_0 v58_1 v58_2 v58_3 v58_4 v58_5 v58_6 v58_7 v58_8)
   (try clear v61_0 v61_1 v61_2 v61_3 v61_4 v61_5 v61_6 v61_7 v61_8)
   (try clear v66_0 v66_1 v66_2 v66_3 v66_4 v66_5 v66_6 v66_7 v66_8)
   (try clear v69_0 v69_1 v69_2 v69_3 v69_4 v69_5 v69_6 v69_7 v69_8)
   (try clear v7_0 v7_1 v7_2 v7_3 v7_4 v7_5 v7_6 v7_7 v7_8)
   obtain ⟨kq, x48_13, rfl, HA, HJ13, HO_969000, HO_969004, HO_969006, HO_969007, HO_969008, HO_989000, HO_989004, HO_989006, HO_989007, HO_989008, HO_1010000, HO_1010004, HO_1010006, HO_1010007, HO_1010008, BK927, BK968, BK988, BK1009, HB⟩ := hcut
   cases kq with
   | zero => exact absurd HA.out (by simp [laws_FnExactWithdraw.j0])
   | succ kj13 =>
    have H := HA.out
    clear HA
    simp only [laws_FnExactWithdraw.j0] at H
    by_cases c71 : x48_13 = true
    ·subst c71
     rw [if_pos rfl] at H
     obtain rfl := Option.some.inj H
     go_wp2
     go_ret
     exact ⟨ee, bb HB⟩
    ·replace c71 := Bool.eq_false_iff.mpr c71
     subst c71
     rw [if_neg (show ¬ (false = true) by decide)] at H
     replace H := Option.bind_eq_some_iff.mp H
     obtain ⟨⟨t1011, t1014, t1015, t1016, t1017, t1020, t1021, t1024, t1027⟩, A720, H⟩ := H
     try dsimp only at H
     have A72 := dk A720
     clear A720
     replace H := Option.bind_eq_some_iff.mp H
     obtain ⟨t1030, A730, H⟩ := H
     try dsimp only at H
     have A73 := dk A730
     clear A730
     have HC74 := dk H
     clear H
     try go_wp2
     replace HO_969000 := dk (Kd.R_drew HO_969000.out)
     replace HO_969004 := dk (Kd.R_drew HO_969004.out)
     replace HO_969006 := dk (Kd.R_drew HO_969006.out)
     replace HO_969007 := dk (Kd.R_drew HO_969007.out)
     replace HO_969008 := dk (Kd.R_drew HO_969008.out)
     replace HO_989000 := dk (Kd.R_drew HO_989000.out)
     replace HO_989004 := dk (Kd.R_drew HO_989004.out)
     replace HO_989006 := dk (Kd.R_drew HO_989006.out)
     replace HO_989007 := dk (Kd.R_drew HO_989007.out)
     replace HO_989008 := dk (Kd.R_drew HO_989008.out)
     replace HO_1010000 := dk (Kd.R_drew HO_1010000.out)
     replace HO_1010004 := dk (Kd.R_drew HO_1010004.out)
     replace HO_1010006 := dk (Kd.R_drew HO_1010006.out)
     replace HO_1010007 := dk (Kd.R_drew HO_1010007.out)
     replace HO_1010008 := dk (Kd.R_drew HO_1010008.out)
     replace BK927 := dk (blk_drew BK927.out)
     replace BK968 := dk (blk_drew BK968.out)
     replace BK988 := dk (blk_drew BK988.out)
     replace BK1009 := dk (blk_drew BK1009.out)
     replace HB := dk (below_drew1 HB.out)
     refine start_ (n := 5) (S := fun w' => w'.cell? ⟨gb988, 0, none⟩ = some (.slice Ao34 t969.length co34) ∧ w'.cell? ⟨gb988, 1, none⟩ = some (.int .i64 t972) ∧ w'.cell? ⟨gb988, 2, none⟩ = some (.int .i64 t973) ∧ w'.cell? ⟨gb988, 3, none⟩ = some (.int .i64 t974) ∧ w'.cell? ⟨gb988, 4, none⟩ = some (.slice Ao38 t975.length co38) ∧ w'.cell? ⟨gb988, 5, none⟩ = some (.bool t978) ∧ w'.cell? ⟨gb988, 6, none⟩ = some (.slice Ao39 t979.length co39) ∧ w'.cell? ⟨gb988, 7, none⟩ = some (.slice Ao40 t982.length co40) ∧ w'.cell? ⟨gb988, 8, none⟩ = some (.slice Ao41 t985.length co41) ∧ w'.cell? ⟨gb927, 0, none⟩ = some (.slice A0_0 l0_0.length c0_0) ∧ w'.cell? ⟨gb927, 1, none⟩ = some (.int .i64 a0_1) ∧ w'.cell? ⟨gb927, 2, none⟩ = some (.int .i64 a0_2) ∧ w'.cell? ⟨gb927, 3, none⟩ = some (.int .i64 a0_3) ∧ w'.cell? ⟨gb927, 4, none⟩ = some (.slice A0_4 l0_4.length c0_4) ∧ w'.cell? ⟨gb927, 5, none⟩ = some (.bool a0_5) ∧ w'.cell? ⟨gb927, 6, none⟩ = some (.slice A0_6 l0_6.length c0_6) ∧ w'.cell? ⟨gb927, 7, none⟩ = some (.slice A0_7 l0_7.length c0_7) ∧ w'.cell? ⟨gb927, 8, none⟩ = some (.slice A0_8 l0_8.length c0_8)) (ds := []) #[false, false, false, false, false] (by kernel_rfl) rfl rfl ⟨bc BK988 0, bc BK988 1, bc BK988 2, bc BK988 3, bc BK988 4, bc BK988 5, bc BK988 6, bc BK988 7, bc BK988 8, bc BK927 0, bc BK927 1, bc BK927 2, bc BK927 3, bc BK927 4, bc BK927 5, bc BK927 6, bc BK927 7, bc BK927 8⟩ (fun hHeld => ?_)
     generalize wc.drew = w75 at HO_969000 HO_969004 HO_969006 HO_969007 HO_969008 HO_989000 HO_989004 HO_989006 HO_989007 HO_989008 HO_1010000 HO_1010004 HO_1010006 HO_1010007 HO_1010008 BK927 BK968 BK988 BK1009 HB hHeld ⊢
     refine take_ (i := 0) (N := some 49) (v := ?_) (a' := ?_) #[true, false, false, false, false] rfl rfl (by kernel_rfl) (fun _ _ _ h => h) (Or.inl ⟨by rfl, ?_⟩) hHeld ?_ ?_
     rotate_left
     ·rintro w' ⟨s0, s1, s2, s3, s4, s5, s6, s7, s8, s9, s10, s11, s12, s13, s14, s15, s16, s17⟩
      go_simp
      with_reducible rfl
     rotate_left
     ·simp only [Act.put, List.setIfInBounds_toArray, List.set_cons_zero, List.set_cons_succ, i64_w, i32_w]
      rfl
     refine take_ (i := 1) (N := some 50) (v := ?_) (a' := ?_) #[true, true, false, false, false] rfl rfl (by kernel_rfl) (fun _ _ _ h => h) (Or.inl ⟨by rfl, ?_⟩) hHeld ?_ ?_
     rotate_left
     ·rintro w' ⟨s0, s1, s2, s3, s4, s5, s6, s7, s8, s9, s10, s11, s12, s13, s14, s15, s16, s17⟩
      go_simp
      with_reducible rfl
     rotate_left
     ·simp only [Act.put, List.setIfInBounds_toArray, List.set_cons_zero, List.set_cons_succ, i64_w, i32_w]
      rfl
     refine one_ (i := 2) (N := some 51) #[true, true, true, false, false] rfl rfl (by kernel_rfl) (by decide) (fun K hK => ?_)
     refine goes_ Try.func13 (by kernel_rfl) rfl #[.agg #[.slice A0_0 l0_0.length c0_0, .int .i64 a0_1, .int .i64 a0_2, .int .i64 a0_3, .slice A0_4 l0_4.length c0_4, .bool a0_5, .slice A0_6 l0_6.length c0_6, .slice A0_7 l0_7.length c0_7, .slice A0_8 l0_8.length c0_8]] (by rfl) rfl rfl (by (try simp only [List.map_toArray, List.map_cons, List.map_nil]); first | done | rfl | (simp only [List.length_drop, List.length_take]; rfl)) ?_
     with_reducible refine (laws_toBook.calls kj13 _ _ l0_0 a0_1 a0_2 a0_3 _ _ l0_4 a0_5 _ _ l0_6 _ _ l0_7 _ _ l0_8 t1011 t1014 t1015 t1016 t1017 t1020 t1021 t1024 t1027 _ ?side1 ?side2 ?side3 ?side4 ?side5 ?side6 ?side7 ?side8 ?side9 ?side10 A72.out).mono ?_
     (case side1 => exact cc HR0_0 HB)
     (case side2 => exact HC0_0.out)
     (case side3 => exact cc HR0_4 HB)
     (case side4 => exact HC0_4.out)
     (case side5 => exact cc HR0_6 HB)
     (case side6 => exact HC0_6.out)
     (case side7 => exact cc HR0_7 HB)
     (case side8 => exact HC0_7.out)
     (case side9 => exact cc HR0_8 HB)
     (case side10 => exact HC0_8.out)
     rintro e w76 ⟨v1012, v1018, v1022, v1025, v1028, rfl, ho0, ho1, ho2, ho3, ho4, hb⟩
     refine ⟨_, rfl, ?_⟩
     have HO1013 := dk (Kd.R_lower (Kd.R_new' (Kd.R_new' (Kd.R_new' ho0 (rt HO_969000)) (rt HO_989000)) (rt HO_1010000)) (below_size (bb HB)))
     replace HO_969000 := ke HO_969000 ho0 hb
     replace HO_989000 := ke HO_989000 ho0 hb
     replace HO_1010000 := ke HO_1010000 ho0 hb
     have HO1019 := dk (Kd.R_lower (Kd.R_new' (Kd.R_new' (Kd.R_new' (Kd.R_new' (Kd.R_new' (Kd.R_new' (Kd.R_new' (Kd.R_new' (Kd.R_new' ho1 (rt HO_969004)) (rt HO_969007)) (rt HO_969008)) (rt HO_989004)) (rt HO_989007)) (rt HO_989008)) (rt HO_1010004)) (rt HO_1010007)) (rt HO_1010008)) (below_size (bb HB)))
     have HO1023 := dk (Kd.R_lower (Kd.R_new' (Kd.R_new' (Kd.R_new' ho2 (rt HO_969006)) (rt HO_989006)) (rt HO_1010006)) (below_size (bb HB)))
     replace HO_969006 := ke HO_969006 ho2 hb
     replace HO_989006 := ke HO_989006 ho2 hb
     replace HO_1010006 := ke HO_1010006 ho2 hb
     have HO1026 := dk (Kd.R_lower (Kd.R_new' (Kd.R_new' (Kd.R_new' (Kd.R_new' (Kd.R_new' (Kd.R_new' (Kd.R_new' (Kd.R_new' (Kd.R_new' ho3 (rt HO_969004)) (rt HO_969007)) (rt HO_969008)) (rt HO_989004)) (rt HO_989007)) (rt HO_989008)) (rt HO_1010004)) (rt HO_1010007)) (rt HO_1010008)) (below_size (bb HB)))
     have HO1029 := dk (Kd.R_lower (Kd.R_new' (Kd.R_new' (Kd.R_new' (Kd.R_new' (Kd.R_new' (Kd.R_new' (Kd.R_new' (Kd.R_new' (Kd.R_new' ho4 (rt HO_969004)) (rt HO_969007)) (rt HO_969008)) (rt HO_989004)) (rt HO_989007)) (rt HO_989008)) (rt HO_1010004)) (rt HO_1010007)) (rt HO_1010008)) (below_size (bb HB)))
     replace HO_969004 := dk (Kd.R_mono (Kd.R_told (Kd.R_told (Kd.R_told (Kd.R_old (rr HO_969004) hb) (Kd.R_base ho1)) (Kd.R_base ho3)) (Kd.R_base ho4)) (fun _ h_ => h_.1))
     replace HO_969007 := dk (Kd.R_mono (Kd.R_told (Kd.R_told (Kd.R_told (Kd.R_old (rr HO_969007) hb) (Kd.R_base ho1)) (Kd.R_base ho3)) (Kd.R_base ho4)) (fun _ h_ => h_.1))
     replace HO_969008 := dk (Kd.R_mono (Kd.R_told (Kd.R_told (Kd.R_told (Kd.R_old (rr HO_969008) hb) (Kd.R_base ho1)) (Kd.R_base ho3)) (Kd.R_base ho4)) (fun _ h_ => h_.1))
     replace HO_989004 := dk (Kd.R_mono (Kd.R_told (Kd.R_told (Kd.R_told (Kd.R_old (rr HO_989004) hb) (Kd.R_base ho1)) (Kd.R_base ho3)) (Kd.R_base ho4)) (fun _ h_ => h_.1))
     replace HO_989007 := dk (Kd.R_mono (Kd.R_told (Kd.R_told (Kd.R_told (Kd.R_old (rr HO_989007) hb) (Kd.R_base ho1)) (Kd.R_base ho3)) (Kd.R_base ho4)) (fun _ h_ => h_.1))
     replace HO_989008 := dk (Kd.R_mono (Kd.R_told (Kd.R_told (Kd.R_told (Kd.R_old (rr HO_989008) hb) (Kd.R_base ho1)) (Kd.R_base ho3)) (Kd.R_base ho4)) (fun _ h_ => h_.1))
     replace HO_1010004 := dk (Kd.R_mono (Kd.R_told (Kd.R_told (Kd.R_told (Kd.R_old (rr HO_1010004) hb) (Kd.R_base ho1)) (Kd.R_base ho3)) (Kd.R_base ho4)) (fun _ h_ => h_.1))
     replace HO_1010007 := dk (Kd.R_mono (Kd.R_told (Kd.R_told (Kd.R_told (Kd.R_old (rr HO_1010007) hb) (Kd.R_base ho1)) (Kd.R_base ho3)) (Kd.R_base ho4)) (fun _ h_ => h_.1))
     replace HO_1010008 := dk (Kd.R_mono (Kd.R_told (Kd.R_told (Kd.R_told (Kd.R_old (rr HO_1010008) hb) (Kd.R_base ho1)) (Kd.R_base ho3)) (Kd.R_base ho4)) (fun _ h_ => h_.1))
     replace BK927 := kb BK927 hb
     replace BK968 := kb BK968 hb
     replace BK988 := kb BK988 hb
     replace BK1009 := kb BK1009 hb
     replace HB := hs_ HB hb
     (try clear hb hb2 hk hi ho0 ho1 ho2 ho3 ho4)
     obtain ⟨Ao77, co77, eo77⟩ := Kd.R_slice HO1013.out
     (first | subst eo77 | (injection eo77 with f1_ f2_ f3_; have f4_ := f1_.symm; have f5_ := f3_.symm; clear f1_ f2_ f3_; subst f4_; subst f5_))
     obtain ⟨Ao78, co78, eo78⟩ := Kd.R_slice HO1019.out
     (first | subst eo78 | (injection eo78 with f1_ f2_ f3_; have f4_ := f1_.symm; have f5_ := f3_.symm; clear f1_ f2_ f3_; subst f4_; subst f5_))
     obtain ⟨Ao79, co79, eo79⟩ := Kd.R_slice HO1023.out
     (first | subst eo79 | (injection eo79 with f1_ f2_ f3_; have f4_ := f1_.symm; have f5_ := f3_.symm; clear f1_ f2_ f3_; subst f4_; subst f5_))
     obtain ⟨Ao80, co80, eo80⟩ := Kd.R_slice HO1026.out
     (first | subst eo80 | (injection eo80 with f1_ f2_ f3_; have f4_ := f1_.symm; have f5_ := f3_.symm; clear f1_ f2_ f3_; subst f4_; subst f5_))
     obtain ⟨Ao81, co81, eo81⟩ := Kd.R_slice HO1029.out
     (first | subst eo81 | (injection eo81 with f1_ f2_ f3_; have f4_ := f1_.symm; have f5_ := f3_.symm; clear f1_ f2_ f3_; subst f4_; subst f5_))
     refine hK.out _ _ ⟨bc BK988 0, bc BK988 1, bc BK988 2, bc BK988 3, bc BK988 4, bc BK988 5, bc BK988 6, bc BK988 7, bc BK988 8, bc BK927 0, bc BK927 1, bc BK927 2, bc BK927 3, bc BK927 4, bc BK927 5, bc BK927 6, bc BK927 7, bc BK927 8⟩ (fun hHeld => ?_)
     clear hK K
     refine norm_ (a' := ?_) ?_ ?_
     rotate_left
     ·show Act.put _ (some 51) _ = _
      simp only [Act.put, List.setIfInBounds_toArray, List.set_cons_zero, List.set_cons_succ, i64_w, i32_w]
      rfl
     refine one_ (i := 3) (N := some 52) #[true, true, true, true, false] rfl rfl (by kernel_rfl) (by decide) (fun K hK => ?_)
     refine goes_ Try.func16 (by kernel_rfl) rfl #[.agg #[.slice Ao34 t969.length co34, .int .i64 t972, .int .i64 t973, .int .i64 t974, .slice Ao38 t975.length co38, .bool t978, .slice Ao39 t979.length co39, .slice Ao40 t982.length co40, .slice Ao41 t985.length co41], .agg #[.slice Ao77 t1011.length co77, .int .i64 t1014, .int .i64 t1015, .int .i64 t1016, .slice Ao78 t1017.length co78, .bool t1020, .slice Ao79 t1021.length co79, .slice Ao80 t1024.length co80, .slice Ao81 t1027.length co81]] (by rfl) rfl rfl (by (try simp only [List.map_toArray, List.map_cons, List.map_nil]); first | done | rfl | (simp only [List.length_drop, List.length_take]; rfl)) ?_
     with_reducible refine (laws_eqBook.calls kj13 _ _ t969 t972 t973 t974 _ _ t975 t978 _ _ t979 _ _ t982 _ _ t985 _ _ t1011 t1014 t1015 t1016 _ _ t1017 t1020 _ _ t1021 _ _ t1024 _ _ t1027 t1030 _ ?side1 ?side2 ?side3 ?side4 ?side5 ?side6 ?side7 ?side8 ?side9 ?side10 ?side11 ?side12 ?side13 ?side14 ?side15 ?side16 ?side17 ?side18 ?side19 ?side20 A73.out).mono ?_
     (case side1 => exact cr HO_989000)
     (case side2 => exact (Kd.R_reads' HO_989000.out).2.1)
     (case side3 => exact cr HO_989004)
     (case side4 => exact (Kd.R_reads' HO_989004.out).2.1)
     (case side5 => exact cr HO_989006)
     (case side6 => exact (Kd.R_reads' HO_989006.out).2.1)
     (case side7 => exact cr HO_989007)
     (case side8 => exact (Kd.R_reads' HO_989007.out).2.1)
     (case side9 => exact cr HO_989008)
     (case side10 => exact (Kd.R_reads' HO_989008.out).2.1)
     (case side11 => exact cr HO1013)
     (case side12 => exact (Kd.R_reads' HO1013.out).2.1)
     (case side13 => exact cr HO1019)
     (case side14 => exact (Kd.R_reads' HO1019.out).2.1)
     (case side15 => exact cr HO1023)
     (case side16 => exact (Kd.R_reads' HO1023.out).2.1)
     (case side17 => exact cr HO1026)
     (case side18 => exact (Kd.R_reads' HO1026.out).2.1)
     (case side19 => exact cr HO1029)
     (case side20 => exact (Kd.R_reads' HO1029.out).2.1)
     rintro e w82 ⟨rfl, hb⟩
     refine ⟨_, rfl, ?_⟩
     replace HO_969000 := kr HO_969000 hb
     replace HO_969004 := kr HO_969004 hb
     replace HO_969006 := kr HO_969006 hb
     replace HO_969007 := kr HO_969007 hb
     replace HO_969008 := kr HO_969008 hb
     replace HO_989000 := kr HO_989000 hb
     replace HO_989004 := kr HO_989004 hb
     replace HO_989006 := kr HO_989006 hb
     replace HO_989007 := kr HO_989007 hb
     replace HO_989008 := kr HO_989008 hb
     replace HO_1010000 := kr HO_1010000 hb
     replace HO_1010004 := kr HO_1010004 hb
     replace HO_1010006 := kr HO_1010006 hb
     replace HO_1010007 := kr HO_1010007 hb
     replace HO_1010008 := kr HO_1010008 hb
     replace HO1013 := kr HO1013 hb
     replace HO1019 := kr HO1019 hb
     replace HO1023 := kr HO1023 hb
     replace HO1026 := kr HO1026 hb
     replace HO1029 := kr HO1029 hb
     replace BK927 := kb BK927 hb
     replace BK968 := kb BK968 hb
     replace BK988 := kb BK988 hb
     replace BK1009 := kb BK1009 hb
     replace HB := hs_ HB hb
     (try clear hb hb2 hk hi)
     refine hK.out _ _ ⟨bc BK988 0, bc BK988 1, bc BK988 2, bc BK988 3, bc BK988 4, bc BK988 5, bc BK988 6, bc BK988 7, bc BK988 8, bc BK927 0, bc BK927 1, bc BK927 2, bc BK927 3, bc BK927 4, bc BK927 5, bc BK927 6, bc BK927 7, bc BK927 8⟩ (fun hHeld => ?_)
     clear hK K
     refine norm_ (a' := ?_) ?_ ?_
     rotate_left
     ·show Act.put _ (some 52) _ = _
      simp only [Act.put, List.setIfInBounds_toArray, List.set_cons_zero, List.set_cons_succ, i64_w, i32_w]
      rfl
     refine pure_ (i := 4) (N := some 53) (v := ?_) (a' := ?_) #[true, true, true, true, true] rfl rfl (by kernel_rfl) (fun _ _ _ h => h) (Or.inl ⟨by rfl, ?_⟩) ?_ ?_
     rotate_left
     ·intro w'
      go_simp
      with_reducible rfl
     rotate_left
     ·simp only [Act.put, List.setIfInBounds_toArray, List.set_cons_zero, List.set_cons_succ, i64_w, i32_w]
      rfl
     refine done_ (by kernel_rfl) ?_
     go_upto_if 53 with (fail)
     have H := HC74.out
     clear HC74
     by_cases c83 : t1030 = true
     ·subst c83
      rw [if_pos rfl] at H
      replace H := Option.bind_eq_some_iff.mp H
      obtain ⟨⟨t1031, t1032, t1033, t1034, t1035, t1036⟩, A840, H⟩ := H
      try dsimp only at H
      have A84 := dk A840
      clear A840
      have HC85 := dk H
      clear H
      have hnb86 := NB988_927.out
      have hnc86 := NB927_988.out
      have hnb87 := NB988_968.out
      have hnc87 := NB968_988.out
      have hnb88 := NB988_1009.out
      have hnc88 := NB1009_988.out
      have ⟨z89_0, z89_1, z89_2, z89_3, z89_4, z89_5, z89_6, z89_7, z89_8, v89_0, v89_1, v89_2, v89_3, v89_4, v89_5, v89_6, v89_7, v89_8⟩ := rz9 BK988
      go_upto_region 14 with (first | ((with_reducible refine gate_callee (f := 18) rfl ?_); refine gl (some 56) Try.func18 #[.agg #[.slice Ao34 t969.length co34, .int .i64 t972, .int .i64 t973, .int .i64 t974, .slice Ao38 t975.length co38, .bool t978, .slice Ao39 t979.length co39, .slice Ao40 t982.length co40, .slice Ao41 t985.length co41], .int .i64 1] ?_; (with_reducible refine (laws_markBook.calls kj13 (fun k_ => some k_ = (.slice Ao34 t969.length co34 : Value).ownBlock) (.slice Ao34 t969.length co34) t969 t972 t973 t974 (fun k_ => some k_ = (.slice Ao38 t975.length co38 : Value).ownBlock) (.slice Ao38 t975.length co38) t975 t978 (fun k_ => some k_ = (.slice Ao39 t979.length co39 : Value).ownBlock) (.slice Ao39 t979.length co39) t979 (fun k_ => some k_ = (.slice Ao40 t982.length co40 : Value).ownBlock) (.slice Ao40 t982.length co40) t982 (fun k_ => some k_ = (.slice Ao41 t985.length co41 : Value).ownBlock) (.slice Ao41 t985.length co41) t985 1 t1031 t1032 t1033 t1034 t1035 t1036 w _ ?side1 ?side2 ?side3 ?side4 ?side5 ?side6 ?side7 ?side8 ?side9 ?side10 ?side11 ?side12 A84.out).mono ?_); (case side1 => exact bb HB); (case side2 => exact Kd.R_tight rfl HO_989000.out); (case side3 => exact Kd.R_tight rfl HO_989004.out); (case side4 => exact fun k_ e_ => (HO_989004.out.1 k_ e_.symm).1.1.1.2.2.2.1); (case side5 => exact fun k_ e_ => (HO_989004.out.1 k_ e_.symm).1.1.1.2.2.2.2.1); (case side6 => exact Kd.R_tight rfl HO_989006.out); (case side7 => exact Kd.R_tight rfl HO_989007.out); (case side8 => exact fun k_ e_ => (HO_989007.out.1 k_ e_.symm).1.1.1.2.2.2.1); (case side9 => exact fun k_ e_ => (HO_989007.out.1 k_ e_.symm).1.1.1.2.2.2.2.1); (case side10 => exact Kd.R_tight rfl HO_989008.out); (case side11 => exact fun k_ e_ => (HO_989008.out.1 k_ e_.symm).1.1.1.2.2.2.1); (case side12 => exact fun k_ e_ => (HO_989008.out.1 k_ e_.symm).1.1.1.2.2.2.2.1); rintro e w90 ⟨rfl, hy0, hy1, hy2, hy3, hy4, hb, hkp⟩; refine ⟨_, rfl, ?_⟩; replace HO_969000 := km hkp (ra (ra (ra (ra HO_969000.out HO_989004) HO_989006) HO_989007) HO_989008) (fun k_ hk_ => oe hk_.1.1.1.1.1.1 (oe hk_.1.1.1.2 (oe hk_.1.1.2 (oe hk_.1.2 hk_.2)))) (fun k_ hk_ => ai hk_.1.1.1.1.1.1 (ai hk_.1.1.1.1.1.2 hk_.1.1.1.1.2)); replace HO_969004 := km hkp (ra (ra HO_969004.out HO_989000) HO_989006) (fun k_ hk_ => oe hk_.1.2 (oe hk_.1.1.1.1.1.2.2.1 (oe hk_.2 (oe hk_.1.1.1.1.1.2.2.2.1 hk_.1.1.1.1.1.2.2.2.2.1)))) (fun k_ hk_ => ai hk_.1.1.1.1.1.1 (ai hk_.1.1.1.1.1.2.1 (ai hk_.1.1.1.1.1.2.2.1 (ai hk_.1.1.1.1.1.2.2.2.1 (ai hk_.1.1.1.1.1.2.2.2.2.1 (ai hk_.1.1.1.1.1.2.2.2.2.2.1 (ai hk_.1.1.1.1.1.2.2.2.2.2.2.1 (ai hk_.1.1.1.1.1.2.2.2.2.2.2.2 (ai hk_.1.1.1.1.2 (ai hk_.1.1.1.2 hk_.1.1.2)))))))))); replace HO_969006 := km hkp (ra (ra (ra (ra HO_969006.out HO_989000) HO_989004) HO_989007) HO_989008) (fun k_ hk_ => oe hk_.1.1.1.2 (oe hk_.1.1.2 (oe hk_.1.1.1.1.1.1 (oe hk_.1.2 hk_.2)))) (fun k_ hk_ => ai hk_.1.1.1.1.1.1 (ai hk_.1.1.1.1.1.2 hk_.1.1.1.1.2)); replace HO_969007 := km hkp (ra (ra HO_969007.out HO_989000) HO_989006) (fun k_ hk_ => oe hk_.1.2 (oe hk_.1.1.1.1.1.2.2.1 (oe hk_.2 (oe hk_.1.1.1.1.1.2.2.2.1 hk_.1.1.1.1.1.2.2.2.2.1)))) (fun k_ hk_ => ai hk_.1.1.1.1.1.1 (ai hk_.1.1.1.1.1.2.1 (ai hk_.1.1.1.1.1.2.2.1 (ai hk_.1.1.1.1.1.2.2.2.1 (ai hk_.1.1.1.1.1.2.2.2.2.1 (ai hk_.1.1.1.1.1.2.2.2.2.2.1 (ai hk_.1.1.1.1.1.2.2.2.2.2.2.1 (ai hk_.1.1.1.1.1.2.2.2.2.2.2.2 (ai hk_.1.1.1.1.2 (ai hk_.1.1.1.2 hk_.1.1.2)))))))))); replace HO_969008 := km hkp (ra (ra HO_969008.out HO_989000) HO_989006) (fun k_ hk_ => oe hk_.1.2 (oe hk_.1.1.1.1.1.2.2.1 (oe hk_.2 (oe hk_.1.1.1.1.1.2.2.2.1 hk_.1.1.1.1.1.2.2.2.2.1)))) (fun k_ hk_ => ai hk_.1.1.1.1.1.1 (ai hk_.1.1.1.1.1.2.1 (ai hk_.1.1.1.1.1.2.2.1 (ai hk_.1.1.1.1.1.2.2.2.1 (ai hk_.1.1.1.1.1.2.2.2.2.1 (ai hk_.1.1.1.1.1.2.2.2.2.2.1 (ai hk_.1.1.1.1.1.2.2.2.2.2.2.1 (ai hk_.1.1.1.1.1.2.2.2.2.2.2.2 (ai hk_.1.1.1.1.2 (ai hk_.1.1.1.2 hk_.1.1.2)))))))))); replace HO_1010000 := km hkp (ra (ra (ra (ra HO_1010000.out HO_989004) HO_989006) HO_989007) HO_989008) (fun k_ hk_ => oe hk_.1.1.1.1.1.2 (oe hk_.1.1.1.2 (oe hk_.1.1.2 (oe hk_.1.2 hk_.2)))) (fun k_ hk_ => ai hk_.1.1.1.1.1.1 (ai hk_.1.1.1.1.1.2 hk_.1.1.1.1.2)); replace HO_1010004 := km hkp (ra (ra HO_1010004.out HO_989000) HO_989006) (fun k_ hk_ => oe hk_.1.2 (oe hk_.1.1.1.1.1.2.2.2.1 (oe hk_.2 (oe hk_.1.1.1.1.1.2.2.2.2.1 hk_.1.1.1.1.1.2.2.2.2.2.1)))) (fun k_ hk_ => ai hk_.1.1.1.1.1.1 (ai hk_.1.1.1.1.1.2.1 (ai hk_.1.1.1.1.1.2.2.1 (ai hk_.1.1.1.1.1.2.2.2.1 (ai hk_.1.1.1.1.1.2.2.2.2.1 (ai hk_.1.1.1.1.1.2.2.2.2.2.1 (ai hk_.1.1.1.1.1.2.2.2.2.2.2.1 (ai hk_.1.1.1.1.1.2.2.2.2.2.2.2 (ai hk_.1.1.1.1.2 (ai hk_.1.1.1.2 hk_.1.1.2)))))))))); replace HO_1010006 := km hkp (ra (ra (ra (ra HO_1010006.out HO_989000) HO_989004) HO_989007) HO_989008) (fun k_ hk_ => oe hk_.1.1.1.2 (oe hk_.1.1.2 (oe hk_.1.1.1.1.1.2 (oe hk_.1.2 hk_.2)))) (fun k_ hk_ => ai hk_.1.1.1.1.1.1 (ai hk_.1.1.1.1.1.2 hk_.1.1.1.1.2)); replace HO_1010007 := km hkp (ra (ra HO_1010007.out HO_989000) HO_989006) (fun k_ hk_ => oe hk_.1.2 (oe hk_.1.1.1.1.1.2.2.2.1 (oe hk_.2 (oe hk_.1.1.1.1.1.2.2.2.2.1 hk_.1.1.1.1.1.2.2.2.2.2.1)))) (fun k_ hk_ => ai hk_.1.1.1.1.1.1 (ai hk_.1.1.1.1.1.2.1 (ai hk_.1.1.1.1.1.2.2.1 (ai hk_.1.1.1.1.1.2.2.2.1 (ai hk_.1.1.1.1.1.2.2.2.2.1 (ai hk_.1.1.1.1.1.2.2.2.2.2.1 (ai hk_.1.1.1.1.1.2.2.2.2.2.2.1 (ai hk_.1.1.1.1.1.2.2.2.2.2.2.2 (ai hk_.1.1.1.1.2 (ai hk_.1.1.1.2 hk_.1.1.2)))))))))); replace HO_1010008 := km hkp (ra (ra HO_1010008.out HO_989000) HO_989006) (fun k_ hk_ => oe hk_.1.2 (oe hk_.1.1.1.1.1.2.2.2.1 (oe hk_.2 (oe hk_.1.1.1.1.1.2.2.2.2.1 hk_.1.1.1.1.1.2.2.2.2.2.1)))) (fun k_ hk_ => ai hk_.1.1.1.1.1.1 (ai hk_.1.1.1.1.1.2.1 (ai hk_.1.1.1.1.1.2.2.1 (ai hk_.1.1.1.1.1.2.2.2.1 (ai hk_.1.1.1.1.1.2.2.2.2.1 (ai hk_.1.1.1.1.1.2.2.2.2.2.1 (ai hk_.1.1.1.1.1.2.2.2.2.2.2.1 (ai hk_.1.1.1.1.1.2.2.2.2.2.2.2 (ai hk_.1.1.1.1.2 (ai hk_.1.1.1.2 hk_.1.1.2)))))))))); replace BK927 := dk (blk_kept (bk BK927) hkp (fun hs_ => Or.elim hs_ (fun e_ => (fun e_ => (Kd.R_ne HO_989000.out BK927.out (by decide)) e_) e_) (fun e_ => Or.elim e_ (fun e_ => (fun e_ => (Kd.R_ne HO_989004.out BK927.out (by decide)) e_) e_) (fun e_ => Or.elim e_ (fun e_ => (fun e_ => (Kd.R_ne HO_989006.out BK927.out (by decide)) e_) e_) (fun e_ => Or.elim e_ (fun e_ => (fun e_ => (Kd.R_ne HO_989007.out BK927.out (by decide)) e_) e_) (fun e_ => (fun e_ => (Kd.R_ne HO_989008.out BK927.out (by decide)) e_) e_)))))); replace BK968 := dk (blk_kept (bk BK968) hkp (fun hs_ => Or.elim hs_ (fun e_ => (fun e_ => (Kd.R_ne HO_989000.out BK968.out (by decide)) e_) e_) (fun e_ => Or.elim e_ (fun e_ => (fun e_ => (Kd.R_ne HO_989004.out BK968.out (by decide)) e_) e_) (fun e_ => Or.elim e_ (fun e_ => (fun e_ => (Kd.R_ne HO_989006.out BK968.out (by decide)) e_) e_) (fun e_ => Or.elim e_ (fun e_ => (fun e_ => (Kd.R_ne HO_989007.out BK968.out (by decide)) e_) e_) (fun e_ => (fun e_ => (Kd.R_ne HO_989008.out BK968.out (by decide)) e_) e_)))))); replace BK988 := dk (blk_kept (bk BK988) hkp (fun hs_ => Or.elim hs_ (fun e_ => (fun e_ => (Kd.R_ne HO_989000.out BK988.out (by decide)) e_) e_) (fun e_ => Or.elim e_ (fun e_ => (fun e_ => (Kd.R_ne HO_989004.out BK988.out (by decide)) e_) e_) (fun e_ => Or.elim e_ (fun e_ => (fun e_ => (Kd.R_ne HO_989006.out BK988.out (by decide)) e_) e_) (fun e_ => Or.elim e_ (fun e_ => (fun e_ => (Kd.R_ne HO_989007.out BK988.out (by decide)) e_) e_) (fun e_ => (fun e_ => (Kd.R_ne HO_989008.out BK988.out (by decide)) e_) e_)))))); replace BK1009 := dk (blk_kept (bk BK1009) hkp (fun hs_ => Or.elim hs_ (fun e_ => (fun e_ => (Kd.R_ne HO_989000.out BK1009.out (by decide)) e_) e_) (fun e_ => Or.elim e_ (fun e_ => (fun e_ => (Kd.R_ne HO_989004.out BK1009.out (by decide)) e_) e_) (fun e_ => Or.elim e_ (fun e_ => (fun e_ => (Kd.R_ne HO_989006.out BK1009.out (by decide)) e_) e_) (fun e_ => Or.elim e_ (fun e_ => (fun e_ => (Kd.R_ne HO_989007.out BK1009.out (by decide)) e_) e_) (fun e_ => (fun e_ => (Kd.R_ne HO_989008.out BK1009.out (by decide)) e_) e_)))))); replace HO1013 := km hkp (ra (ra (ra (ra HO1013.out HO_989004) HO_989006) HO_989007) HO_989008) (fun k_ hk_ => oe hk_.1.1.1.1.1.2 (oe hk_.1.1.1.2 (oe hk_.1.1.2 (oe hk_.1.2 hk_.2)))) (fun k_ hk_ => ai hk_.1.1.1.1.1.1.2 (ai hk_.1.1.1.1.1.2 hk_.1.1.1.1.2)); replace HO1019 := km hkp (ra (ra HO1019.out HO_989000) HO_989006) (fun k_ hk_ => oe hk_.1.2 (oe hk_.1.1.1.1.1.1.1.2 (oe hk_.2 (oe hk_.1.1.1.1.1.1.2 hk_.1.1.1.1.1.2)))) (fun k_ hk_ => ai hk_.1.1.1.1.1.1.1.1.1.1.2 (ai hk_.1.1.1.1.1.1.1.1.1.2 (ai hk_.1.1.1.1.1.1.1.1.2 (ai hk_.1.1.1.1.1.1.1.2 (ai hk_.1.1.1.1.1.1.2 (ai hk_.1.1.1.1.1.2 (ai hk_.1.1.1.1.2 (ai hk_.1.1.1.2 (ai hk_.1.1.2 (ai hk_.1.1.1.1.1.1.1.1.1.1.1.1 hk_.1.1.1.1.1.1.1.1.1.1.1.2)))))))))); replace HO1023 := km hkp (ra (ra (ra (ra HO1023.out HO_989000) HO_989004) HO_989007) HO_989008) (fun k_ hk_ => oe hk_.1.1.1.2 (oe hk_.1.1.2 (oe hk_.1.1.1.1.1.2 (oe hk_.1.2 hk_.2)))) (fun k_ hk_ => ai hk_.1.1.1.1.1.1.2 (ai hk_.1.1.1.1.1.2 hk_.1.1.1.1.2)); replace HO_989004 := dk (Kd.R_reok rfl hy1 (fun k_ e_ => HO_989004.out.1 k_ e_)); replace HO_989007 := dk (Kd.R_reok rfl hy3 (fun k_ e_ => HO_989007.out.1 k_ e_)); replace HO_989008 := dk (Kd.R_reok rfl hy4 (fun k_ e_ => HO_989008.out.1 k_ e_)); replace HO1026 := km hkp (ra (ra HO1026.out HO_989000) HO_989006) (fun k_ hk_ => oe hk_.1.2 (oe hk_.1.1.1.1.1.1.1.2 (oe hk_.2 (oe hk_.1.1.1.1.1.1.2 hk_.1.1.1.1.1.2)))) (fun k_ hk_ => ai hk_.1.1.1.1.1.1.1.1.1.1.2 (ai hk_.1.1.1.1.1.1.1.1.1.2 (ai hk_.1.1.1.1.1.1.1.1.2 (ai hk_.1.1.1.1.1.1.1.2 (ai hk_.1.1.1.1.1.1.2 (ai hk_.1.1.1.1.1.2 (ai hk_.1.1.1.1.2 (ai hk_.1.1.1.2 (ai hk_.1.1.2 (ai hk_.1.1.1.1.1.1.1.1.1.1.1.1 hk_.1.1.1.1.1.1.1.1.1.1.1.2)))))))))); replace HO1029 := km hkp (ra (ra HO1029.out HO_989000) HO_989006) (fun k_ hk_ => oe hk_.1.2 (oe hk_.1.1.1.1.1.1.1.2 (oe hk_.2 (oe hk_.1.1.1.1.1.1.2 hk_.1.1.1.1.1.2)))) (fun k_ hk_ => ai hk_.1.1.1.1.1.1.1.1.1.1.2 (ai hk_.1.1.1.1.1.1.1.1.1.2 (ai hk_.1.1.1.1.1.1.1.1.2 (ai hk_.1.1.1.1.1.1.1.2 (ai hk_.1.1.1.1.1.1.2 (ai hk_.1.1.1.1.1.2 (ai hk_.1.1.1.1.2 (ai hk_.1.1.1.2 (ai hk_.1.1.2 (ai hk_.1.1.1.1.1.1.1.1.1.1.1.1 hk_.1.1.1.1.1.1.1.1.1.1.1.2)))))))))); replace HO_989000 := dk (Kd.R_reok rfl hy0 (fun k_ e_ => HO_989000.out.1 k_ e_)); replace HO_989006 := dk (Kd.R_reok rfl hy2 (fun k_ e_ => HO_989006.out.1 k_ e_)); replace HB := dk (hb); (try clear hb hkp hy0 hy1 hy2 hy3 hy4)))
      (try simp only [Act.put, List.setIfInBounds_toArray, List.set_cons_zero, List.set_cons_succ])
      go_cut [69] (fun v69 wc => ∃ (kq : Nat) (x69_84 : Bool), v69 = .bool x69_84 ∧ Aside0 (laws_FnExactWithdraw.j1 kq a1 a2 t967 x69_84 l0_0 a0_1 a0_2 a0_3 l0_4 a0_5 l0_6 l0_7 l0_8 t948 t951 t952 t953 t954 t957 t958 t961 t964 t989 t992 t993 t994 t995 t998 t999 t1002 t1005 = some r) ∧ Aside0 (kq ≤ kj13) ∧ Aside0 (Kd.R k139 139 wc w.heap.size (fun k_ => nb k_ Ao34 t969.length co34 ∧ nb k_ Ao44 t989.length co44) (.slice Ao24 t948.length co24) t948) ∧ Aside0 (Kd.R (Kd.int .i64) 3 wc w.heap.size (fun k_ => nb k_ Ao29 t961.length co29 ∧ nb k_ Ao30 t964.length co30 ∧ nb k_ Ao38 t975.length co38 ∧ nb k_ Ao40 t982.length co40 ∧ nb k_ Ao41 t985.length co41 ∧ nb k_ Ao49 t995.length co49 ∧ nb k_ Ao51 t1002.length co51 ∧ nb k_ Ao52 t1005.length co52) (.slice Ao27 t954.length co27) t954) ∧ Aside0 (Kd.R k95 95 wc w.heap.size (fun k_ => nb k_ Ao39 t979.length co39 ∧ nb k_ Ao50 t999.length co50) (.slice Ao28 t958.length co28) t958) ∧ Aside0 (Kd.R (Kd.int .i64) 3 wc w.heap.size (fun k_ => nb k_ Ao27 t954.length co27 ∧ nb k_ Ao30 t964.length co30 ∧ nb k_ Ao38 t975.length co38 ∧ nb k_ Ao40 t982.length co40 ∧ nb k_ Ao41 t985.length co41 ∧ nb k_ Ao49 t995.length co49 ∧ nb k_ Ao51 t1002.length co51 ∧ nb k_ Ao52 t1005.length co52) (.slice Ao29 t961.length co29) t961) ∧ Aside0 (Kd.R (Kd.int .i64) 3 wc w.heap.size (fun k_ => nb k_ Ao27 t954.length co27 ∧ nb k_ Ao29 t961.length co29 ∧ nb k_ Ao38 t975.length co38 ∧ nb k_ Ao40 t982.length co40 ∧ nb k_ Ao41 t985.length co41 ∧ nb k_ Ao49 t995.length co49 ∧ nb k_ Ao51 t1002.length co51 ∧ nb k_ Ao52 t1005.length co52) (.slice Ao30 t964.length co30) t964) ∧ Aside0 (Kd.R k139 139 wc w.heap.size (fun k_ => nb k_ Ao24 t948.length co24 ∧ nb k_ Ao44 t989.length co44) (.slice Ao34 t969.length co34) t1032) ∧ Aside0 (Kd.R (Kd.int .i64) 3 wc w.heap.size (fun k_ => nb k_ Ao27 t954.length co27 ∧ nb k_ Ao29 t961.length co29 ∧ nb k_ Ao30 t964.length co30 ∧ nb k_ Ao40 t982.length co40 ∧ nb k_ Ao41 t985.length co41 ∧ nb k_ Ao49 t995.length co49 ∧ nb k_ Ao51 t1002.length co51 ∧ nb k_ Ao52 t1005.length co52) (.slice Ao38 t975.length co38) t1033) ∧ Aside0 (Kd.R k95 95 wc w.heap.size (fun k_ => nb k_ Ao28 t958.length co28 ∧ nb k_ Ao50 t999.length co50) (.slice Ao39 t979.length co39) t1034) ∧ Aside0 (Kd.R (Kd.int .i64) 3 wc w.heap.size (fun k_ => nb k_ Ao27 t954.length co27 ∧ nb k_ Ao29 t961.length co29 ∧ nb k_ Ao30 t964.length co30 ∧ nb k_ Ao38 t975.length co38 ∧ nb k_ Ao41 t985.length co41 ∧ nb k_ Ao49 t995.length co49 ∧ nb k_ Ao51 t1002.length co51 ∧ nb k_ Ao52 t1005.length co52) (.slice Ao40 t982.length co40) t1035) ∧ Aside0 (Kd.R (Kd.int .i64) 3 wc w.heap.size (fun k_ => nb k_ Ao27 t954.length co27 ∧ nb k_ Ao29 t961.length co29 ∧ nb k_ Ao30 t964.length co30 ∧ nb k_ Ao38 t975.length co38 ∧ nb k_ Ao40 t982.length co40 ∧ nb k_ Ao49 t995.length co49 ∧ nb k_ Ao51 t1002.length co51 ∧ nb k_ Ao52 t1005.length co52) (.slice Ao41 t985.length co41) t1036) ∧ Aside0 (Kd.R k139 139 wc w.heap.size (fun k_ => nb k_ Ao24 t948.length co24 ∧ nb k_ Ao34 t969.length co34) (.slice Ao44 t989.length co44) t989) ∧ Aside0 (Kd.R (Kd.int .i64) 3 wc w.heap.size (fun k_ => nb k_ Ao27 t954.length co27 ∧ nb k_ Ao29 t961.length co29 ∧ nb k_ Ao30 t964.length co30 ∧ nb k_ Ao38 t975.length co38 ∧ nb k_ Ao40 t982.length co40 ∧ nb k_ Ao41 t985.length co41 ∧ nb k_ Ao51 t1002.length co51 ∧ nb k_ Ao52 t1005.length co52) (.slice Ao49 t995.length co49) t995) ∧ Aside0 (Kd.R k95 95 wc w.heap.size (fun k_ => nb k_ Ao28 t958.length co28 ∧ nb k_ Ao39 t979.length co39) (.slice Ao50 t999.length co50) t999) ∧ Aside0 (Kd.R (Kd.int .i64) 3 wc w.heap.size (fun k_ => nb k_ Ao27 t954.length co27 ∧ nb k_ Ao29 t961.length co29 ∧ nb k_ Ao30 t964.length co30 ∧ nb k_ Ao38 t975.length co38 ∧ nb k_ Ao40 t982.length co40 ∧ nb k_ Ao41 t985.length co41 ∧ nb k_ Ao49 t995.length co49 ∧ nb k_ Ao52 t1005.length co52) (.slice Ao51 t1002.length co51) t1002) ∧ Aside0 (Kd.R (Kd.int .i64) 3 wc w.heap.size (fun k_ => nb k_ Ao27 t954.length co27 ∧ nb k_ Ao29 t961.length co29 ∧ nb k_ Ao30 t964.length co30 ∧ nb k_ Ao38 t975.length co38 ∧ nb k_ Ao40 t982.length co40 ∧ nb k_ Ao41 t985.length co41 ∧ nb k_ Ao49 t995.length co49 ∧ nb k_ Ao51 t1002.length co51) (.slice Ao52 t1005.length co52) t1005) ∧ Aside0 (wc.heap[gb927]? = some (.cells #[(.slice A0_0 l0_0.length c0_0), .int .i64 a0_1, .int .i64 a0_2, .int .i64 a0_3, (.slice A0_4 l0_4.length c0_4), .bool a0_5, (.slice A0_6 l0_6.length c0_6), (.slice A0_7 l0_7.length c0_7), (.slice A0_8 l0_8.length c0_8)] 28 (0, 0))) ∧ Aside0 (wc.heap[gb968]? = some (.cells #[(.slice Ao24 t948.length co24), .int .i64 t951, .int .i64 t952, .int .i64 t953, (.slice Ao27 t954.length co27), .bool t957, (.slice Ao28 t958.length co28), (.slice Ao29 t961.length co29), (.slice Ao30 t964.length co30)] 36 (0, 0))) ∧ Aside0 (wc.heap[gb988]? = some (.cells #[(.slice Ao34 t969.length co34), .int .i64 t972, .int .i64 t973, .int .i64 t974, (.slice Ao38 t975.length co38), .bool t978, (.slice Ao39 t979.length co39), (.slice Ao40 t982.length co40), (.slice Ao41 t985.length co41)] 36 (0, 0))) ∧ Aside0 (wc.heap[gb1009]? = some (.cells #[(.slice Ao44 t989.length co44), .int .i64 t992, .int .i64 t993, .int .i64 t994, (.slice Ao49 t995.length co49), .bool t998, (.slice Ao50 t999.length co50), (.slice Ao51 t1002.length co51), (.slice Ao52 t1005.length co52)] 36 (0, 0))) ∧ Aside0 (Below w.heap.size w wc))
      case first =>
       have H := HC85.out
       clear HC85
       by_cases c91 : t1031 < 0
       ·rw [if_pos c91] at H
        have c91b0 : decide (t1031 < 0) = true := decide_eq_true c91
        clear c91
        (first | rw [c91b0] | rw [c91b1] | (simp only [i64_w, i32_w]; rw [c91b0]) | skip)
        have H' := dk H
        clear H
        go_wp2
        go_meet
        case rel => exact ⟨_, (true), e2_, H', ⟨by have := HJ13.out; first | omega | exact Nat.le_refl _⟩, ⟨ro HO_969000 (fun _ hk => ⟨hk.1, hk.2.1⟩)⟩, ⟨rp HO_969004⟩, ⟨ro HO_969006 (fun _ hk => ⟨hk.1, hk.2.1⟩)⟩, ⟨rp HO_969007⟩, ⟨rp HO_969008⟩, ⟨ro HO_989000 (fun _ hk => ⟨hk.1.1, hk.1.2⟩)⟩, ⟨rp HO_989004⟩, ⟨ro HO_989006 (fun _ hk => ⟨hk.1.1, hk.1.2⟩)⟩, ⟨rp HO_989007⟩, ⟨rp HO_989008⟩, ⟨ro HO_1010000 (fun _ hk => ⟨hk.1, hk.2.1⟩)⟩, ⟨rp HO_1010004⟩, ⟨ro HO_1010006 (fun _ hk => ⟨hk.1, hk.2.1⟩)⟩, ⟨rp HO_1010007⟩, ⟨rp HO_1010008⟩, ⟨bk BK927⟩, ⟨bk BK968⟩, ⟨bk BK988⟩, ⟨bk BK1009⟩, ⟨bb HB⟩⟩
       ·rw [if_neg c91] at H
        have c91b0 : decide (t1031 < 0) = false := decide_eq_false c91
        clear c91
        (first | rw [c91b0] | rw [c91b1] | (simp only [i64_w, i32_w]; rw [c91b0]) | skip)
        replace H := Option.bind_eq_some_iff.mp H
        obtain ⟨t1037, A920, H⟩ := H
        try dsimp only at H
        have A92 := dk A920
        clear A920
        by_cases c93 : t1037 = true
        ·subst c93
         rw [if_pos rfl] at H
         have H' := dk H
         clear H
         have hnb94 := NB1009_927.out
         have hnc94 := NB927_1009.out
         have hnb95 := NB1009_968.out
         have hnc95 := NB968_1009.out
         have hnb96 := NB1009_988.out
         have hnc96 := NB988_1009.out
         have ⟨z97_0, z97_1, z97_2, z97_3, z97_4, z97_5, z97_6, z97_7, z97_8, v97_0, v97_1, v97_2, v97_3, v97_4, v97_5, v97_6, v97_7, v97_8⟩ := rz9 BK1009
         have hnb98 := NB968_927.out
         have hnc98 := NB927_968.out
         have hnb99 := NB968_988.out
         have hnc99 := NB988_968.out
         have ⟨z100_0, z100_1, z100_2, z100_3, z100_4, z100_5, z100_6, z100_7, z100_8, v100_0, v100_1, v100_2, v100_3, v100_4, v100_5, v100_6, v100_7, v100_8⟩ := rz9 BK968
         go_wp2_with (first | (go_at_call 16; (with_reducible refine (laws_eqBook.calls kj13 _ _ t989 t992 t993 t994 _ _ t995 t998 _ _ t999 _ _ t1002 _ _ t1005 _ _ t948 t951 t952 t953 _ _ t954 t957 _ _ t958 _ _ t961 _ _ t964 true _ ?side1 ?side2 ?side3 ?side4 ?side5 ?side6 ?side7 ?side8 ?side9 ?side10 ?side11 ?side12 ?side13 ?side14 ?side15 ?side16 ?side17 ?side18 ?side19 ?side20 A92.out).mono ?_); (case side1 => exact cr HO_1010000); (case side2 => exact cl HO_1010000); (case side3 => exact cr HO_1010004); (case side4 => exact cl HO_1010004); (case side5 => exact cr HO_1010006); (case side6 => exact cl HO_1010006); (case side7 => exact cr HO_1010007); (case side8 => exact cl HO_1010007); (case side9 => exact cr HO_1010008); (case side10 => exact cl HO_1010008); (case side11 => exact cr HO_969000); (case side12 => exact cl HO_969000); (case side13 => exact cr HO_969004); (case side14 => exact cl HO_969004); (case side15 => exact cr HO_969006); (case side16 => exact cl HO_969006); (case side17 => exact cr HO_969007); (case side18 => exact cl HO_969007); (case side19 => exact cr HO_969008); (case side20 => exact cl HO_969008); rintro e w101 ⟨rfl, hb⟩; replace HO_969000 := kr HO_969000 hb; replace HO_969004 := kr HO_969004 hb; replace HO_969006 := kr HO_969006 hb; replace HO_969007 := kr HO_969007 hb; replace HO_969008 := kr HO_969008 hb; replace HO_989000 := kr HO_989000 hb; replace HO_989004 := kr HO_989004 hb; replace HO_989006 := kr HO_989006 hb; replace HO_989007 := kr HO_989007 hb; replace HO_989008 := kr HO_989008 hb; replace HO_1010000 := kr HO_1010000 hb; replace HO_1010004 := kr HO_1010004 hb; replace HO_1010006 := kr HO_1010006 hb; replace HO_1010007 := kr HO_1010007 hb; replace HO_1010008 := kr HO_1010008 hb; replace HO1013 := kr HO1013 hb; replace HO1019 := kr HO1019 hb; replace HO1023 := kr HO1023 hb; replace HO1026 := kr HO1026 hb; replace HO1029 := kr HO1029 hb; replace BK927 := kb BK927 hb; replace BK968 := kb BK968 hb; replace BK988 := kb BK988 hb; replace BK1009 := kb BK1009 hb; replace HB := hs_ HB hb; (try clear hb hb2 hk hi)))
         go_meet
         case rel => exact ⟨_, ((t1008 != t967)), e2_, H', ⟨by have := HJ13.out; first | omega | exact Nat.le_refl _⟩, ⟨ro HO_969000 (fun _ hk => ⟨hk.1, hk.2.1⟩)⟩, ⟨rp HO_969004⟩, ⟨ro HO_969006 (fun _ hk => ⟨hk.1, hk.2.1⟩)⟩, ⟨rp HO_969007⟩, ⟨rp HO_969008⟩, ⟨ro HO_989000 (fun _ hk => ⟨hk.1.1, hk.1.2⟩)⟩, ⟨rp HO_989004⟩, ⟨ro HO_989006 (fun _ hk => ⟨hk.1.1, hk.1.2⟩)⟩, ⟨rp HO_989007⟩, ⟨rp HO_989008⟩, ⟨ro HO_1010000 (fun _ hk => ⟨hk.1, hk.2.1⟩)⟩, ⟨rp HO_1010004⟩, ⟨ro HO_1010006 (fun _ hk => ⟨hk.1, hk.2.1⟩)⟩, ⟨rp HO_1010007⟩, ⟨rp HO_1010008⟩, ⟨bk BK927⟩, ⟨bk BK968⟩, ⟨bk BK988⟩, ⟨bk BK1009⟩, ⟨bb HB⟩⟩
        ·replace c93 := Bool.eq_false_iff.mpr c93
         subst c93
         rw [if_neg (show ¬ (false = true) by decide)] at H
         have H' := dk H
         clear H
         have hnb102 := NB1009_927.out
         have hnc102 := NB927_1009.out
         have hnb103 := NB1009_968.out
         have hnc103 := NB968_1009.out
         have hnb104 := NB1009_988.out
         have hnc104 := NB988_1009.out
         have ⟨z105_0, z105_1, z105_2, z105_3, z105_4, z105_5, z105_6, z105_7, z105_8, v105_0, v105_1, v105_2, v105_3, v105_4, v105_5, v105_6, v105_7, v105_8⟩ := rz9 BK1009
         have hnb106 := NB968_927.out
         have hnc106 := NB927_968.out
         have hnb107 := NB968_988.out
         have hnc107 := NB988_968.out
         have ⟨z108_0, z108_1, z108_2, z108_3, z108_4, z108_5, z108_6, z108_7, z108_8, v108_0, v108_1, v108_2, v108_3, v108_4, v108_5, v108_6, v108_7, v108_8⟩ := rz9 BK968
         go_wp2_with (first | (go_at_call 16; (with_reducible refine (laws_eqBook.calls kj13 _ _ t989 t992 t993 t994 _ _ t995 t998 _ _ t999 _ _ t1002 _ _ t1005 _ _ t948 t951 t952 t953 _ _ t954 t957 _ _ t958 _ _ t961 _ _ t964 false _ ?side1 ?side2 ?side3 ?side4 ?side5 ?side6 ?side7 ?side8 ?side9 ?side10 ?side11 ?side12 ?side13 ?side14 ?side15 ?side16 ?side17 ?side18 ?side19 ?side20 A92.out).mono ?_); (case side1 => exact cr HO_1010000); (case side2 => exact cl HO_1010000); (case side3 => exact cr HO_1010004); (case side4 => exact cl HO_1010004); (case side5 => exact cr HO_1010006); (case side6 => exact cl HO_1010006); (case side7 => exact cr HO_1010007); (case side8 => exact cl HO_1010007); (case side9 => exact cr HO_1010008); (case side10 => exact cl HO_1010008); (case side11 => exact cr HO_969000); (case side12 => exact cl HO_969000); (case side13 => exact cr HO_969004); (case side14 => exact cl HO_969004); (case side15 => exact cr HO_969006); (case side16 => exact cl HO_969006); (case side17 => exact cr HO_969007); (case side18 => exact cl HO_969007); (case side19 => exact cr HO_969008); (case side20 => exact cl HO_969008); rintro e w109 ⟨rfl, hb⟩; replace HO_969000 := kr HO_969000 hb; replace HO_969004 := kr HO_969004 hb; replace HO_969006 := kr HO_969006 hb; replace HO_969007 := kr HO_969007 hb; replace HO_969008 := kr HO_969008 hb; replace HO_989000 := kr HO_989000 hb; replace HO_989004 := kr HO_989004 hb; replace HO_989006 := kr HO_989006 hb; replace HO_989007 := kr HO_989007 hb; replace HO_989008 := kr HO_989008 hb; replace HO_1010000 := kr HO_1010000 hb; replace HO_1010004 := kr HO_1010004 hb; replace HO_1010006 := kr HO_1010006 hb; replace HO_1010007 := kr HO_1010007 hb; replace HO_1010008 := kr HO_1010008 hb; replace HO1013 := kr HO1013 hb; replace HO1019 := kr HO1019 hb; replace HO1023 := kr HO1023 hb; replace HO1026 := kr HO1026 hb; replace HO1029 := kr HO1029 hb; replace BK927 := kb BK927 hb; replace BK968 := kb BK968 hb; replace BK988 := kb BK988 hb; replace BK1009 := kb BK1009 hb; replace HB := hs_ HB hb; (try clear hb hb2 hk hi)))
         go_meet
         case rel => exact ⟨_, (true), e2_, H', ⟨by have := HJ13.out; first | omega | exact Nat.le_refl _⟩, ⟨ro HO_969000 (fun _ hk => ⟨hk.1, hk.2.1⟩)⟩, ⟨rp HO_969004⟩, ⟨ro HO_969006 (fun _ hk => ⟨hk.1, hk.2.1⟩)⟩, ⟨rp HO_969007⟩, ⟨rp HO_969008⟩, ⟨ro HO_989000 (fun _ hk => ⟨hk.1.1, hk.1.2⟩)⟩, ⟨rp HO_989004⟩, ⟨ro HO_989006 (fun _ hk => ⟨hk.1.1, hk.1.2⟩)⟩, ⟨rp HO_989007⟩, ⟨rp HO_989008⟩, ⟨ro HO_1010000 (fun _ hk => ⟨hk.1, hk.2.1⟩)⟩, ⟨rp HO_1010004⟩, ⟨ro HO_1010006 (fun _ hk => ⟨hk.1, hk.2.1⟩)⟩, ⟨rp HO_1010007⟩, ⟨rp HO_1010008⟩, ⟨bk BK927⟩, ⟨bk BK968⟩, ⟨bk BK988⟩, ⟨bk BK1009⟩, ⟨bb HB⟩⟩
      case rest =>
       clear HC85
       (try clear c1)
       (try clear p2)
       (try clear c7)
       (try clear c8)
       (try clear c9)
       (try clear c10)
       (try clear c13)
       (try clear c16)
       (try clear c18)
       (try clear c71)
       (try clear c83)
       (try clear c86)
       (try clear c87)
       (try clear c88)
       (try clear c91)
       (try clear c91b0)
       (try clear c91b1)
       (try clear c93)
       (try clear c94)
       (try clear c95)
       (try clear c96)
       (try clear c98)
       (try clear c99)
       (try clear c102)
       (try clear c103)
       (try clear c104)
       (try clear c106)
       (try clear c107)
       (try clear z100_0 z100_1 z100_2 z100_3 z100_4 z100_5 z100_6 z100_7 z100_8)
       (try clear z105_0 z105_1 z105_2 z105_3 z105_4 z105_5 z105_6 z105_7 z105_8)
       (try clear z108_0 z108_1 z108_2 z108_3 z108_4 z108_5 z108_6 z108_7 z108_8)
       (try clear z89_0 z89_1 z89_2 z89_3 z89_4 z89_5 z89_6 z89_7 z89_8)
       (try clear z97_0 z97_1 z97_2 z97_3 z97_4 z97_5 z97_6 z97_7 z97_8)
       (try clear v100_0 v100_1 v100_2 v100_3 v100_4 v100_5 v100_6 v100_7 v100_8)
       (try clear v105_0 v105_1 v105_2 v105_3 v105_4 v105_5 v105_6 v105_7 v105_8)
       (try clear v108_0 v108_1 v108_2 v108_3 v108_4 v108_5 v108_6 v108_7 v108_8)
       (try clear v31_1 v31_2 v31_3 v31_4 v31_5 v31_6 v31_7 v31_8)
       (try clear v37_0 v37_1 v37_2 v37_3 v37_4 v37_5 v37_6 v37_7 v37_8)
       (try clear v48_0 v48_1 v48_2 v48_3 v48_4 v48_5 v48_6 v48_7 v48_8)
       (try clear v58_0 v58_1 v58_2 v58_3 v58_4 v58_5 v58_6 v58_7 v58_8)
       (try clear v61_0 v61_1 v61_2 v61_3 v61_4 v61_5 v61_6 v61_7 v61_8)
       (try clear v66_0 v66_1 v66_2 v66_3 v66_4 v66_5 v66_6 v66_7 v66_8)
       (try clear v69_0 v69_1 v69_2 v69_3 v69_4 v69_5 v69_6 v69_7 v69_8)
       (try clear v7_0 v7_1 v7_2 v7_3 v7_4 v7_5 v7_6 v7_7 v7_8)
       (try clear v89_0 v89_1 v89_2 v89_3 v89_4 v89_5 v89_6 v89_7 v89_8)
       (try clear v97_0 v97_1 v97_2 v97_3 v97_4 v97_5 v97_6 v97_7 v97_8)
       obtain ⟨kq, x69_84, rfl, HA, HJ84, HO_969000, HO_969004, HO_969006, HO_969007, HO_969008, HO_989000, HO_989004, HO_989006, HO_989007, HO_989008, HO_1010000, HO_1010004, HO_1010006, HO_1010007, HO_1010008, BK927, BK968, BK988, BK1009, HB⟩ := hcut
       have hl989000_84 := (Kd.R_reads' HO_989000.out).1
       rw [hl989000_84] at HO_989000
       (try simp only [hl989000_84] at BK927 BK968 BK988 BK1009 HO_969000 HO_969004 HO_969006 HO_969007 HO_969008 HO_989004 HO_989006 HO_989007 HO_989008 HO_1010000 HO_1010004 HO_1010006 HO_1010007 HO_1010008 ⊢)
       have hl989004_84 := (Kd.R_reads' HO_989004.out).1
       rw [hl989004_84] at HO_989004
       (try simp only [hl989004_84] at BK927 BK968 BK988 BK1009 HO_969000 HO_969004 HO_969006 HO_969007 HO_969008 HO_989000 HO_989006 HO_989007 HO_989008 HO_1010000 HO_1010004 HO_1010006 HO_1010007 HO_1010008 ⊢)
       have hl989006_84 := (Kd.R_reads' HO_989006.out).1
       rw [hl989006_84] at HO_989006
       (try simp only [hl989006_84] at BK927 BK968 BK988 BK1009 HO_969000 HO_969004 HO_969006 HO_969007 HO_969008 HO_989000 HO_989004 HO_989007 HO_989008 HO_1010000 HO_1010004 HO_1010006 HO_1010007 HO_1010008 ⊢)
       have hl989007_84 := (Kd.R_reads' HO_989007.out).1
       rw [hl989007_84] at HO_989007
       (try simp only [hl989007_84] at BK927 BK968 BK988 BK1009 HO_969000 HO_969004 HO_969006 HO_969007 HO_969008 HO_989000 HO_989004 HO_989006 HO_989008 HO_1010000 HO_1010004 HO_1010006 HO_1010007 HO_1010008 ⊢)
       have hl989008_84 := (Kd.R_reads' HO_989008.out).1
       rw [hl989008_84] at HO_989008
       (try simp only [hl989008_84] at BK927 BK968 BK988 BK1009 HO_969000 HO_969004 HO_969006 HO_969007 HO_969008 HO_989000 HO_989004 HO_989006 HO_989007 HO_1010000 HO_1010004 HO_1010006 HO_1010007 HO_1010008 ⊢)
       cases kq with
       | zero => exact absurd HA.out (by simp [laws_FnExactWithdraw.j1])
       | succ kj84 =>
        have H := HA.out
        clear HA
        simp only [laws_FnExactWithdraw.j1] at H
        by_cases c110 : x69_84 = true
        ·subst c110
         rw [if_pos rfl] at H
         obtain rfl := Option.some.inj H
         go_wp2
         go_ret
         exact ⟨ee, bb HB⟩
        ·replace c110 := Bool.eq_false_iff.mpr c110
         subst c110
         rw [if_neg (show ¬ (false = true) by decide)] at H
         replace H := Option.bind_eq_some_iff.mp H
         obtain ⟨⟨t1038, t1039, t1040, t1041, t1042, t1043⟩, A1110, H⟩ := H
         try dsimp only at H
         have A111 := dk A1110
         clear A1110
         replace H := Option.bind_eq_some_iff.mp H
         obtain ⟨t1044, A1120, H⟩ := H
         try dsimp only at H
         have A112 := dk A1120
         clear A1120
         have HC113 := dk H
         clear H
         have hnb114 := NB1009_927.out
         have hnc114 := NB927_1009.out
         have hnb115 := NB1009_968.out
         have hnc115 := NB968_1009.out
         have hnb116 := NB1009_988.out
         have hnc116 := NB988_1009.out
         have ⟨z117_0, z117_1, z117_2, z117_3, z117_4, z117_5, z117_6, z117_7, z117_8, v117_0, v117_1, v117_2, v117_3, v117_4, v117_5, v117_6, v117_7, v117_8⟩ := rz9 BK1009
         go_upto_if 77 with (first | ((with_reducible refine gate_callee (f := 18) rfl ?_); refine gl (some 72) Try.func18 #[.agg #[.slice Ao44 t989.length co44, .int .i64 t992, .int .i64 t993, .int .i64 t994, .slice Ao49 t995.length co49, .bool t998, .slice Ao50 t999.length co50, .slice Ao51 t1002.length co51, .slice Ao52 t1005.length co52], .int .i64 1] ?_; (with_reducible refine (laws_markBook.calls kj84 (fun k_ => some k_ = (.slice Ao44 t989.length co44 : Value).ownBlock) (.slice Ao44 t989.length co44) t989 t992 t993 t994 (fun k_ => some k_ = (.slice Ao49 t995.length co49 : Value).ownBlock) (.slice Ao49 t995.length co49) t995 t998 (fun k_ => some k_ = (.slice Ao50 t999.length co50 : Value).ownBlock) (.slice Ao50 t999.length co50) t999 (fun k_ => some k_ = (.slice Ao51 t1002.length co51 : Value).ownBlock) (.slice Ao51 t1002.length co51) t1002 (fun k_ => some k_ = (.slice Ao52 t1005.length co52 : Value).ownBlock) (.slice Ao52 t1005.length co52) t1005 1 t1038 t1039 t1040 t1041 t1042 t1043 w _ ?side1 ?side2 ?side3 ?side4 ?side5 ?side6 ?side7 ?side8 ?side9 ?side10 ?side11 ?side12 A111.out).mono ?_); (case side1 => exact bb HB); (case side2 => exact Kd.R_tight rfl HO_1010000.out); (case side3 => exact Kd.R_tight rfl HO_1010004.out); (case side4 => exact fun k_ e_ => (HO_1010004.out.1 k_ e_.symm).2.2.2.2.2.2.1); (case side5 => exact fun k_ e_ => (HO_1010004.out.1 k_ e_.symm).2.2.2.2.2.2.2); (case side6 => exact Kd.R_tight rfl HO_1010006.out); (case side7 => exact Kd.R_tight rfl HO_1010007.out); (case side8 => exact fun k_ e_ => (HO_1010007.out.1 k_ e_.symm).2.2.2.2.2.2.1); (case side9 => exact fun k_ e_ => (HO_1010007.out.1 k_ e_.symm).2.2.2.2.2.2.2); (case side10 => exact Kd.R_tight rfl HO_1010008.out); (case side11 => exact fun k_ e_ => (HO_1010008.out.1 k_ e_.symm).2.2.2.2.2.2.1); (case side12 => exact fun k_ e_ => (HO_1010008.out.1 k_ e_.symm).2.2.2.2.2.2.2); rintro e w118 ⟨rfl, hy0, hy1, hy2, hy3, hy4, hb, hkp⟩; refine ⟨_, rfl, ?_⟩; replace HO_969000 := km hkp (ra (ra (ra (ra HO_969000.out HO_1010004) HO_1010006) HO_1010007) HO_1010008) (fun k_ hk_ => oe hk_.1.1.1.1.2 (oe hk_.1.1.1.2 (oe hk_.1.1.2 (oe hk_.1.2 hk_.2)))) (fun k_ hk_ => ai hk_.1.1.1.1.1 hk_.1.1.1.1.2); replace HO_969004 := km hkp (ra (ra HO_969004.out HO_1010000) HO_1010006) (fun k_ hk_ => oe hk_.1.2 (oe hk_.1.1.2.2.2.2.2.1 (oe hk_.2 (oe hk_.1.1.2.2.2.2.2.2.1 hk_.1.1.2.2.2.2.2.2.2)))) (fun k_ hk_ => ai hk_.1.1.1 (ai hk_.1.1.2.1 (ai hk_.1.1.2.2.1 (ai hk_.1.1.2.2.2.1 (ai hk_.1.1.2.2.2.2.1 (ai hk_.1.1.2.2.2.2.2.1 (ai hk_.1.1.2.2.2.2.2.2.1 hk_.1.1.2.2.2.2.2.2.2))))))); replace HO_969006 := km hkp (ra (ra (ra (ra HO_969006.out HO_1010000) HO_1010004) HO_1010007) HO_1010008) (fun k_ hk_ => oe hk_.1.1.1.2 (oe hk_.1.1.2 (oe hk_.1.1.1.1.2 (oe hk_.1.2 hk_.2)))) (fun k_ hk_ => ai hk_.1.1.1.1.1 hk_.1.1.1.1.2); replace HO_969007 := km hkp (ra (ra HO_969007.out HO_1010000) HO_1010006) (fun k_ hk_ => oe hk_.1.2 (oe hk_.1.1.2.2.2.2.2.1 (oe hk_.2 (oe hk_.1.1.2.2.2.2.2.2.1 hk_.1.1.2.2.2.2.2.2.2)))) (fun k_ hk_ => ai hk_.1.1.1 (ai hk_.1.1.2.1 (ai hk_.1.1.2.2.1 (ai hk_.1.1.2.2.2.1 (ai hk_.1.1.2.2.2.2.1 (ai hk_.1.1.2.2.2.2.2.1 (ai hk_.1.1.2.2.2.2.2.2.1 hk_.1.1.2.2.2.2.2.2.2))))))); replace HO_969008 := km hkp (ra (ra HO_969008.out HO_1010000) HO_1010006) (fun k_ hk_ => oe hk_.1.2 (oe hk_.1.1.2.2.2.2.2.1 (oe hk_.2 (oe hk_.1.1.2.2.2.2.2.2.1 hk_.1.1.2.2.2.2.2.2.2)))) (fun k_ hk_ => ai hk_.1.1.1 (ai hk_.1.1.2.1 (ai hk_.1.1.2.2.1 (ai hk_.1.1.2.2.2.1 (ai hk_.1.1.2.2.2.2.1 (ai hk_.1.1.2.2.2.2.2.1 (ai hk_.1.1.2.2.2.2.2.2.1 hk_.1.1.2.2.2.2.2.2.2))))))); replace HO_989000 := km hkp (ra (ra (ra (ra HO_989000.out HO_1010004) HO_1010006) HO_1010007) HO_1010008) (fun k_ hk_ => oe hk_.1.1.1.1.2 (oe hk_.1.1.1.2 (oe hk_.1.1.2 (oe hk_.1.2 hk_.2)))) (fun k_ hk_ => ai hk_.1.1.1.1.1 hk_.1.1.1.1.2); replace HO_989004 := km hkp (ra (ra HO_989004.out HO_1010000) HO_1010006) (fun k_ hk_ => oe hk_.1.2 (oe hk_.1.1.2.2.2.2.2.1 (oe hk_.2 (oe hk_.1.1.2.2.2.2.2.2.1 hk_.1.1.2.2.2.2.2.2.2)))) (fun k_ hk_ => ai hk_.1.1.1 (ai hk_.1.1.2.1 (ai hk_.1.1.2.2.1 (ai hk_.1.1.2.2.2.1 (ai hk_.1.1.2.2.2.2.1 (ai hk_.1.1.2.2.2.2.2.1 (ai hk_.1.1.2.2.2.2.2.2.1 hk_.1.1.2.2.2.2.2.2.2))))))); replace HO_989006 := km hkp (ra (ra (ra (ra HO_989006.out HO_1010000) HO_1010004) HO_1010007) HO_1010008) (fun k_ hk_ => oe hk_.1.1.1.2 (oe hk_.1.1.2 (oe hk_.1.1.1.1.2 (oe hk_.1.2 hk_.2)))) (fun k_ hk_ => ai hk_.1.1.1.1.1 hk_.1.1.1.1.2); replace HO_989007 := km hkp (ra (ra HO_989007.out HO_1010000) HO_1010006) (fun k_ hk_ => oe hk_.1.2 (oe hk_.1.1.2.2.2.2.2.1 (oe hk_.2 (oe hk_.1.1.2.2.2.2.2.2.1 hk_.1.1.2.2.2.2.2.2.2)))) (fun k_ hk_ => ai hk_.1.1.1 (ai hk_.1.1.2.1 (ai hk_.1.1.2.2.1 (ai hk_.1.1.2.2.2.1 (ai hk_.1.1.2.2.2.2.1 (ai hk_.1.1.2.2.2.2.2.1 (ai hk_.1.1.2.2.2.2.2.2.1 hk_.1.1.2.2.2.2.2.2.2))))))); replace HO_989008 := km hkp (ra (ra HO_989008.out HO_1010000) HO_1010006) (fun k_ hk_ => oe hk_.1.2 (oe hk_.1.1.2.2.2.2.2.1 (oe hk_.2 (oe hk_.1.1.2.2.2.2.2.2.1 hk_.1.1.2.2.2.2.2.2.2)))) (fun k_ hk_ => ai hk_.1.1.1 (ai hk_.1.1.2.1 (ai hk_.1.1.2.2.1 (ai hk_.1.1.2.2.2.1 (ai hk_.1.1.2.2.2.2.1 (ai hk_.1.1.2.2.2.2.2.1 (ai hk_.1.1.2.2.2.2.2.2.1 hk_.1.1.2.2.2.2.2.2.2))))))); replace BK927 := dk (blk_kept (bk BK927) hkp (fun hs_ => Or.elim hs_ (fun e_ => (fun e_ => (Kd.R_ne HO_1010000.out BK927.out (by decide)) e_) e_) (fun e_ => Or.elim e_ (fun e_ => (fun e_ => (Kd.R_ne HO_1010004.out BK927.out (by decide)) e_) e_) (fun e_ => Or.elim e_ (fun e_ => (fun e_ => (Kd.R_ne HO_1010006.out BK927.out (by decide)) e_) e_) (fun e_ => Or.elim e_ (fun e_ => (fun e_ => (Kd.R_ne HO_1010007.out BK927.out (by decide)) e_) e_) (fun e_ => (fun e_ => (Kd.R_ne HO_1010008.out BK927.out (by decide)) e_) e_)))))); replace BK968 := dk (blk_kept (bk BK968) hkp (fun hs_ => Or.elim hs_ (fun e_ => (fun e_ => (Kd.R_ne HO_1010000.out BK968.out (by decide)) e_) e_) (fun e_ => Or.elim e_ (fun e_ => (fun e_ => (Kd.R_ne HO_1010004.out BK968.out (by decide)) e_) e_) (fun e_ => Or.elim e_ (fun e_ => (fun e_ => (Kd.R_ne HO_1010006.out BK968.out (by decide)) e_) e_) (fun e_ => Or.elim e_ (fun e_ => (fun e_ => (Kd.R_ne HO_1010007.out BK968.out (by decide)) e_) e_) (fun e_ => (fun e_ => (Kd.R_ne HO_1010008.out BK968.out (by decide)) e_) e_)))))); replace BK988 := dk (blk_kept (bk BK988) hkp (fun hs_ => Or.elim hs_ (fun e_ => (fun e_ => (Kd.R_ne HO_1010000.out BK988.out (by decide)) e_) e_) (fun e_ => Or.elim e_ (fun e_ => (fun e_ => (Kd.R_ne HO_1010004.out BK988.out (by decide)) e_) e_) (fun e_ => Or.elim e_ (fun e_ => (fun e_ => (Kd.R_ne HO_1010006.out BK988.out (by decide)) e_) e_) (fun e_ => Or.elim e_ (fun e_ => (fun e_ => (Kd.R_ne HO_1010007.out BK988.out (by decide)) e_) e_) (fun e_ => (fun e_ => (Kd.R_ne HO_1010008.out BK988.out (by decide)) e_) e_)))))); replace BK1009 := dk (blk_kept (bk BK1009) hkp (fun hs_ => Or.elim hs_ (fun e_ => (fun e_ => (Kd.R_ne HO_1010000.out BK1009.out (by decide)) e_) e_) (fun e_ => Or.elim e_ (fun e_ => (fun e_ => (Kd.R_ne HO_1010004.out BK1009.out (by decide)) e_) e_) (fun e_ => Or.elim e_ (fun e_ => (fun e_ => (Kd.R_ne HO_1010006.out BK1009.out (by decide)) e_) e_) (fun e_ => Or.elim e_ (fun e_ => (fun e_ => (Kd.R_ne HO_1010007.out BK1009.out (by decide)) e_) e_) (fun e_ => (fun e_ => (Kd.R_ne HO_1010008.out BK1009.out (by decide)) e_) e_)))))); replace HO_1010000 := dk (Kd.R_reok rfl hy0 (fun k_ e_ => HO_1010000.out.1 k_ e_)); replace HO_1010004 := dk (Kd.R_reok rfl hy1 (fun k_ e_ => HO_1010004.out.1 k_ e_)); replace HO_1010006 := dk (Kd.R_reok rfl hy2 (fun k_ e_ => HO_1010006.out.1 k_ e_)); replace HO_1010007 := dk (Kd.R_reok rfl hy3 (fun k_ e_ => HO_1010007.out.1 k_ e_)); replace HO_1010008 := dk (Kd.R_reok rfl hy4 (fun k_ e_ => HO_1010008.out.1 k_ e_)); replace HB := dk (hb); (try clear hb hkp hy0 hy1 hy2 hy3 hy4); have ⟨z119_0, z119_1, z119_2, z119_3, z119_4, z119_5, z119_6, z119_7, z119_8, v119_0, v119_1, v119_2, v119_3, v119_4, v119_5, v119_6, v119_7, v119_8⟩ := rz9 BK1009) | ((with_reducible refine gate_callee (f := 20) rfl ?_); refine goesL_ (some 75) rfl rfl Try.func20 (by kernel_rfl) rfl #[.agg #[.slice Ao44 t1039.length co44, .int .i64 t992, .int .i64 t993, .int .i64 t994, .slice Ao49 t1040.length co49, .bool t998, .slice Ao50 t1041.length co50, .slice Ao51 t1042.length co51, .slice Ao52 t1043.length co52], .int .i64 1] rfl (by (try simp only [List.map_toArray, List.map_cons, List.map_nil]); first | done | (rw [show t1039.length = t989.length from (Kd.R_reads' HO_1010000.out).1.symm, show t1040.length = t995.length from (Kd.R_reads' HO_1010004.out).1.symm, show t1041.length = t999.length from (Kd.R_reads' HO_1010006.out).1.symm, show t1042.length = t1002.length from (Kd.R_reads' HO_1010007.out).1.symm, show t1043.length = t1005.length from (Kd.R_reads' HO_1010008.out).1.symm] <;> rfl) | rfl | (simp only [List.length_drop, List.length_take]; rfl)) ?_; (with_reducible refine (laws_heldBook.calls kj84 _ _ t1039 t992 t993 t994 _ _ t1040 t998 _ _ t1041 _ _ t1042 _ _ t1043 1 t1044 _ ?side1 ?side2 ?side3 ?side4 ?side5 ?side6 ?side7 ?side8 ?side9 ?side10 A112.out).mono ?_); (case side1 => exact cr HO_1010000); (case side2 => rw [show t1039.length = t989.length from (Kd.R_reads' HO_1010000.out).1.symm]; exact (Kd.R_reads' HO_1010000.out).2.1); (case side3 => exact cr HO_1010004); (case side4 => rw [show t1040.length = t995.length from (Kd.R_reads' HO_1010004.out).1.symm]; exact (Kd.R_reads' HO_1010004.out).2.1); (case side5 => exact cr HO_1010006); (case side6 => rw [show t1041.length = t999.length from (Kd.R_reads' HO_1010006.out).1.symm]; exact (Kd.R_reads' HO_1010006.out).2.1); (case side7 => exact cr HO_1010007); (case side8 => rw [show t1042.length = t1002.length from (Kd.R_reads' HO_1010007.out).1.symm]; exact (Kd.R_reads' HO_1010007.out).2.1); (case side9 => exact cr HO_1010008); (case side10 => rw [show t1043.length = t1005.length from (Kd.R_reads' HO_1010008.out).1.symm]; exact (Kd.R_reads' HO_1010008.out).2.1); rintro e w120 ⟨rfl, hb⟩; refine ⟨_, rfl, ?_⟩; replace HO_969000 := kr HO_969000 hb; replace HO_969004 := kr HO_969004 hb; replace HO_969006 := kr HO_969006 hb; replace HO_969007 := kr HO_969007 hb; replace HO_969008 := kr HO_969008 hb; replace HO_989000 := kr HO_989000 hb; replace HO_989004 := kr HO_989004 hb; replace HO_989006 := kr HO_989006 hb; replace HO_989007 := kr HO_989007 hb; replace HO_989008 := kr HO_989008 hb; replace HO_1010000 := kr HO_1010000 hb; replace HO_1010004 := kr HO_1010004 hb; replace HO_1010006 := kr HO_1010006 hb; replace HO_1010007 := kr HO_1010007 hb; replace HO_1010008 := kr HO_1010008 hb; replace BK927 := kb BK927 hb; replace BK968 := kb BK968 hb; replace BK988 := kb BK988 hb; replace BK1009 := kb BK1009 hb; replace HB := hs_ HB hb; (try clear hb hb2 hk hi)))
         (try simp only [Act.put, List.setIfInBounds_toArray, List.set_cons_zero, List.set_cons_succ])
         have H := HC113.out
         clear HC113
         by_cases c121 : t1044 < 0
         ·rw [if_pos c121] at H
          have c121b0 : decide (t1044 < 0) = true := decide_eq_true c121
          clear c121
          (first | rw [c121b0] | rw [c121b1] | (simp only [i64_w, i32_w]; rw [c121b0]) | skip)
          obtain rfl := Option.some.inj H
          go_wp2
          go_ret
          exact ⟨ee, bb HB⟩
         ·rw [if_neg c121] at H
          have c121b0 : decide (t1044 < 0) = false := decide_eq_false c121
          clear c121
          (first | rw [c121b0] | rw [c121b1] | (simp only [i64_w, i32_w]; rw [c121b0]) | skip)
          by_cases c122 : t1044 = t1038
          ·rw [if_pos c122] at H
           have c122b0 : (t1044 == t1038) = true := beq_iff_eq.mpr c122
           have c122b1 : (t1044 != t1038) = false := bne_eq_false_iff_eq.mpr c122
           clear c122
           replace H := Option.bind_eq_some_iff.mp H
           obtain ⟨⟨t1045, t1048, t1049, t1050, t1051, t1054, t1055, t1058, t1061⟩, A1230, H⟩ := H
           try dsimp only at H
           have A123 := dk A1230
           clear A1230
           replace H := Option.bind_eq_some_iff.mp H
           obtain ⟨⟨t1064, t1067, t1068, t1069, t1070, t1073, t1074, t1077, t1080, t1083⟩, A1240, H⟩ := H
           try dsimp only at H
           have A124 := dk A1240
           clear A1240
           have HC125 := dk H
           clear H
           have hnb126 := NB927_968.out
           have hnc126 := NB968_927.out
           have hnb127 := NB927_988.out
           have hnc127 := NB988_927.out
           have hnb128 := NB927_1009.out
           have hnc128 := NB1009_927.out
           have ⟨z129_0, z129_1, z129_2, z129_3, z129_4, z129_5, z129_6, z129_7, z129_8, v129_0, v129_1, v129_2, v129_3, v129_4, v129_5, v129_6, v129_7, v129_8⟩ := rz9 BK927
           go_upto_region 25 with (first | ((with_reducible refine gate_callee (f := 13) rfl ?_); refine gl (some 83) Try.func13 #[.agg #[.slice A0_0 l0_0.length c0_0, .int .i64 a0_1, .int .i64 a0_2, .int .i64 a0_3, .slice A0_4 l0_4.length c0_4, .bool a0_5, .slice A0_6 l0_6.length c0_6, .slice A0_7 l0_7.length c0_7, .slice A0_8 l0_8.length c0_8]] ?_; (with_reducible refine (laws_toBook.calls kj84 _ _ l0_0 a0_1 a0_2 a0_3 _ _ l0_4 a0_5 _ _ l0_6 _ _ l0_7 _ _ l0_8 t1045 t1048 t1049 t1050 t1051 t1054 t1055 t1058 t1061 _ ?side1 ?side2 ?side3 ?side4 ?side5 ?side6 ?side7 ?side8 ?side9 ?side10 A123.out).mono ?_); (case side1 => exact cc HR0_0 HB); (case side2 => exact HC0_0.out); (case side3 => exact cc HR0_4 HB); (case side4 => exact HC0_4.out); (case side5 => exact cc HR0_6 HB); (case side6 => exact HC0_6.out); (case side7 => exact cc HR0_7 HB); (case side8 => exact HC0_7.out); (case side9 => exact cc HR0_8 HB); (case side10 => exact HC0_8.out); rintro e w130 ⟨v1046, v1052, v1056, v1059, v1062, rfl, ho0, ho1, ho2, ho3, ho4, hb⟩; refine ⟨_, rfl, ?_⟩; have HO1047 := dk (Kd.R_lower (Kd.R_new' (Kd.R_new' (Kd.R_new' ho0 (rt HO_969000)) (rt HO_989000)) (rt HO_1010000)) (below_size (bb HB))); replace HO_969000 := ke HO_969000 ho0 hb; replace HO_989000 := ke HO_989000 ho0 hb; replace HO_1010000 := ke HO_1010000 ho0 hb; have HO1053 := dk (Kd.R_lower (Kd.R_new' (Kd.R_new' (Kd.R_new' (Kd.R_new' (Kd.R_new' (Kd.R_new' (Kd.R_new' (Kd.R_new' (Kd.R_new' ho1 (rt HO_969004)) (rt HO_969007)) (rt HO_969008)) (rt HO_989004)) (rt HO_989007)) (rt HO_989008)) (rt HO_1010004)) (rt HO_1010007)) (rt HO_1010008)) (below_size (bb HB))); have HO1057 := dk (Kd.R_lower (Kd.R_new' (Kd.R_new' (Kd.R_new' ho2 (rt HO_969006)) (rt HO_989006)) (rt HO_1010006)) (below_size (bb HB))); replace HO_969006 := ke HO_969006 ho2 hb; replace HO_989006 := ke HO_989006 ho2 hb; replace HO_1010006 := ke HO_1010006 ho2 hb; have HO1060 := dk (Kd.R_lower (Kd.R_new' (Kd.R_new' (Kd.R_new' (Kd.R_new' (Kd.R_new' (Kd.R_new' (Kd.R_new' (Kd.R_new' (Kd.R_new' ho3 (rt HO_969004)) (rt HO_969007)) (rt HO_969008)) (rt HO_989004)) (rt HO_989007)) (rt HO_989008)) (rt HO_1010004)) (rt HO_1010007)) (rt HO_1010008)) (below_size (bb HB))); have HO1063 := dk (Kd.R_lower (Kd.R_new' (Kd.R_new' (Kd.R_new' (Kd.R_new' (Kd.R_new' (Kd.R_new' (Kd.R_new' (Kd.R_new' (Kd.R_new' ho4 (rt HO_969004)) (rt HO_969007)) (rt HO_969008)) (rt HO_989004)) (rt HO_989007)) (rt HO_989008)) (rt HO_1010004)) (rt HO_1010007)) (rt HO_1010008)) (below_size (bb HB))); replace HO_969004 := dk (Kd.R_mono (Kd.R_told (Kd.R_told (Kd.R_told (Kd.R_old (rr HO_969004) hb) (Kd.R_base ho1)) (Kd.R_base ho3)) (Kd.R_base ho4)) (fun _ h_ => h_.1)); replace HO_969007 := dk (Kd.R_mono (Kd.R_told (Kd.R_told (Kd.R_told (Kd.R_old (rr HO_969007) hb) (Kd.R_base ho1)) (Kd.R_base ho3)) (Kd.R_base ho4)) (fun _ h_ => h_.1)); replace HO_969008 := dk (Kd.R_mono (Kd.R_told (Kd.R_told (Kd.R_told (Kd.R_old (rr HO_969008) hb) (Kd.R_base ho1)) (Kd.R_base ho3)) (Kd.R_base ho4)) (fun _ h_ => h_.1)); replace HO_989004 := dk (Kd.R_mono (Kd.R_told (Kd.R_told (Kd.R_told (Kd.R_old (rr HO_989004) hb) (Kd.R_base ho1)) (Kd.R_base ho3)) (Kd.R_base ho4)) (fun _ h_ => h_.1)); replace HO_989007 := dk (Kd.R_mono (Kd.R_told (Kd.R_told (Kd.R_told (Kd.R_old (rr HO_989007) hb) (Kd.R_base ho1)) (Kd.R_base ho3)) (Kd.R_base ho4)) (fun _ h_ => h_.1)); replace HO_989008 := dk (Kd.R_mono (Kd.R_told (Kd.R_told (Kd.R_told (Kd.R_old (rr HO_989008) hb) (Kd.R_base ho1)) (Kd.R_base ho3)) (Kd.R_base ho4)) (fun _ h_ => h_.1)); replace HO_1010004 := dk (Kd.R_mono (Kd.R_told (Kd.R_told (Kd.R_told (Kd.R_old (rr HO_1010004) hb) (Kd.R_base ho1)) (Kd.R_base ho3)) (Kd.R_base ho4)) (fun _ h_ => h_.1)); replace HO_1010007 := dk (Kd.R_mono (Kd.R_told (Kd.R_told (Kd.R_told (Kd.R_old (rr HO_1010007) hb) (Kd.R_base ho1)) (Kd.R_base ho3)) (Kd.R_base ho4)) (fun _ h_ => h_.1)); replace HO_1010008 := dk (Kd.R_mono (Kd.R_told (Kd.R_told (Kd.R_told (Kd.R_old (rr HO_1010008) hb) (Kd.R_base ho1)) (Kd.R_base ho3)) (Kd.R_base ho4)) (fun _ h_ => h_.1)); replace BK927 := kb BK927 hb; replace BK968 := kb BK968 hb; replace BK988 := kb BK988 hb; replace BK1009 := kb BK1009 hb; replace HB := hs_ HB hb; (try clear hb hb2 hk hi ho0 ho1 ho2 ho3 ho4); obtain ⟨Ao131, co131, eo131⟩ := Kd.R_slice HO1047.out; subst eo131; obtain ⟨Ao132, co132, eo132⟩ := Kd.R_slice HO1053.out; subst eo132; obtain ⟨Ao133, co133, eo133⟩ := Kd.R_slice HO1057.out; subst eo133; obtain ⟨Ao134, co134, eo134⟩ := Kd.R_slice HO1060.out; subst eo134; obtain ⟨Ao135, co135, eo135⟩ := Kd.R_slice HO1063.out; subst eo135) | ((with_reducible refine gate_callee (f := 25) rfl ?_); refine gl (some 86) Try.func25 #[.agg #[.slice Ao131 t1045.length co131, .int .i64 t1048, .int .i64 t1049, .int .i64 t1050, .slice Ao132 t1051.length co132, .bool t1054, .slice Ao133 t1055.length co133, .slice Ao134 t1058.length co134, .slice Ao135 t1061.length co135], .int .i64 a1, .int .i64 a2] ?_; (with_reducible refine (impl_Withdraw.calls kj84 _ _ t1045 t1048 t1049 t1050 _ _ t1051 t1054 _ _ t1055 _ _ t1058 _ _ t1061 a1 a2 t1064 t1067 t1068 t1069 t1070 t1073 t1074 t1077 t1080 t1083 _ ?side1 ?side2 ?side3 ?side4 ?side5 ?side6 ?side7 ?side8 ?side9 ?side10 A124.out).mono ?_); (case side1 => exact cr HO1047); (case side2 => exact cl HO1047); (case side3 => exact cr HO1053); (case side4 => exact cl HO1053); (case side5 => exact cr HO1057); (case side6 => exact cl HO1057); (case side7 => exact cr HO1060); (case side8 => exact cl HO1060); (case side9 => exact cr HO1063); (case side10 => exact cl HO1063); rintro e w136 ⟨v1065, v1071, v1075, v1078, v1081, rfl, ho0, ho1, ho2, ho3, ho4, hb⟩; refine ⟨_, rfl, ?_⟩; have HO1066 := dk (Kd.R_lower (Kd.R_new' (Kd.R_new' (Kd.R_new' (Kd.R_new' ho0 (rt HO_969000)) (rt HO_989000)) (rt HO_1010000)) (rt HO1047)) (below_size (bb HB))); replace HO_969000 := ke HO_969000 ho0 hb; replace HO_989000 := ke HO_989000 ho0 hb; replace HO_1010000 := ke HO_1010000 ho0 hb; replace HO1047 := ke HO1047 ho0 hb; have HO1072 := dk (Kd.R_lower (Kd.R_new' (Kd.R_new' (Kd.R_new' (Kd.R_new' (Kd.R_new' (Kd.R_new' (Kd.R_new' (Kd.R_new' (Kd.R_new' (Kd.R_new' (Kd.R_new' (Kd.R_new' ho1 (rt HO_969004)) (rt HO_969007)) (rt HO_969008)) (rt HO_989004)) (rt HO_989007)) (rt HO_989008)) (rt HO_1010004)) (rt HO_1010007)) (rt HO_1010008)) (rt HO1053)) (rt HO1060)) (rt HO1063)) (below_size (bb HB))); have HO1076 := dk (Kd.R_lower (Kd.R_new' (Kd.R_new' (Kd.R_new' (Kd.R_new' ho2 (rt HO_969006)) (rt HO_989006)) (rt HO_1010006)) (rt HO1057)) (below_size (bb HB))); replace HO_969006 := ke HO_969006 ho2 hb; replace HO_989006 := ke HO_989006 ho2 hb; replace HO_1010006 := ke HO_1010006 ho2 hb; replace HO1057 := ke HO1057 ho2 hb; have HO1079 := dk (Kd.R_lower (Kd.R_new' (Kd.R_new' (Kd.R_new' (Kd.R_new' (Kd.R_new' (Kd.R_new' (Kd.R_new' (Kd.R_new' (Kd.R_new' (Kd.R_new' (Kd.R_new' (Kd.R_new' ho3 (rt HO_969004)) (rt HO_969007)) (rt HO_969008)) (rt HO_989004)) (rt HO_989007)) (rt HO_989008)) (rt HO_1010004)) (rt HO_1010007)) (rt HO_1010008)) (rt HO1053)) (rt HO1060)) (rt HO1063)) (below_size (bb HB))); have HO1082 := dk (Kd.R_lower (Kd.R_new' (Kd.R_new' (Kd.R_new' (Kd.R_new' (Kd.R_new' (Kd.R_new' (Kd.R_new' (Kd.R_new' (Kd.R_new' (Kd.R_new' (Kd.R_new' (Kd.R_new' ho4 (rt HO_969004)) (rt HO_969007)) (rt HO_969008)) (rt HO_989004)) (rt HO_989007)) (rt HO_989008)) (rt HO_1010004)) (rt HO_1010007)) (rt HO_1010008)) (rt HO1053)) (rt HO1060)) (rt HO1063)) (below_size (bb HB))); replace HO_969004 := dk (Kd.R_mono (Kd.R_told (Kd.R_told (Kd.R_told (Kd.R_old (rr HO_969004) hb) (Kd.R_base ho1)) (Kd.R_base ho3)) (Kd.R_base ho4)) (fun _ h_ => h_.1)); replace HO_969007 := dk (Kd.R_mono (Kd.R_told (Kd.R_told (Kd.R_told (Kd.R_old (rr HO_969007) hb) (Kd.R_base ho1)) (Kd.R_base ho3)) (Kd.R_base ho4)) (fun _ h_ => h_.1)); replace HO_969008 := dk (Kd.R_mono (Kd.R_told (Kd.R_told (Kd.R_told (Kd.R_old (rr HO_969008) hb) (Kd.R_base ho1)) (Kd.R_base ho3)) (Kd.R_base ho4)) (fun _ h_ => h_.1)); replace HO_989004 := dk (Kd.R_mono (Kd.R_told (Kd.R_told (Kd.R_told (Kd.R_old (rr HO_989004) hb) (Kd.R_base ho1)) (Kd.R_base ho3)) (Kd.R_base ho4)) (fun _ h_ => h_.1)); replace HO_989007 := dk (Kd.R_mono (Kd.R_told (Kd.R_told (Kd.R_told (Kd.R_old (rr HO_989007) hb) (Kd.R_base ho1)) (Kd.R_base ho3)) (Kd.R_base ho4)) (fun _ h_ => h_.1)); replace HO_989008 := dk (Kd.R_mono (Kd.R_told (Kd.R_told (Kd.R_told (Kd.R_old (rr HO_989008) hb) (Kd.R_base ho1)) (Kd.R_base ho3)) (Kd.R_base ho4)) (fun _ h_ => h_.1)); replace HO_1010004 := dk (Kd.R_mono (Kd.R_told (Kd.R_told (Kd.R_told (Kd.R_old (rr HO_1010004) hb) (Kd.R_base ho1)) (Kd.R_base ho3)) (Kd.R_base ho4)) (fun _ h_ => h_.1)); replace HO_1010007 := dk (Kd.R_mono (Kd.R_told (Kd.R_told (Kd.R_told (Kd.R_old (rr HO_1010007) hb) (Kd.R_base ho1)) (Kd.R_base ho3)) (Kd.R_base ho4)) (fun _ h_ => h_.1)); replace HO_1010008 := dk (Kd.R_mono (Kd.R_told (Kd.R_told (Kd.R_told (Kd.R_old (rr HO_1010008) hb) (Kd.R_base ho1)) (Kd.R_base ho3)) (Kd.R_base ho4)) (fun _ h_ => h_.1)); replace HO1053 := dk (Kd.R_mono (Kd.R_told (Kd.R_told (Kd.R_told (Kd.R_old (rr HO1053) hb) (Kd.R_base ho1)) (Kd.R_base ho3)) (Kd.R_base ho4)) (fun _ h_ => h_.1)); replace HO1060 := dk (Kd.R_mono (Kd.R_told (Kd.R_told (Kd.R_told (Kd.R_old (rr HO1060) hb) (Kd.R_base ho1)) (Kd.R_base ho3)) (Kd.R_base ho4)) (fun _ h_ => h_.1)); replace HO1063 := dk (Kd.R_mono (Kd.R_told (Kd.R_told (Kd.R_told (Kd.R_old (rr HO1063) hb) (Kd.R_base ho1)) (Kd.R_base ho3)) (Kd.R_base ho4)) (fun _ h_ => h_.1)); replace BK927 := kb BK927 hb; replace BK968 := kb BK968 hb; replace BK988 := kb BK988 hb; replace BK1009 := kb BK1009 hb; replace HB := hs_ HB hb; (try clear hb hb2 hk hi ho0 ho1 ho2 ho3 ho4)) | ((with_reducible refine gate_dst (N := 16) rfl ?_); refine bx (N := 16) (cs := #[.slice none 0 0, .int .i64 0, .int .i64 0, .int .i64 0, .slice none 0 0, .bool false, .slice none 0 0, .slice none 0 0, .slice none 0 0]) (t := 36) ?_; intro gb1084 hg w137 hbox hb; replace HO_969000 := kr HO_969000 hb; replace HO_969004 := kr HO_969004 hb; replace HO_969006 := kr HO_969006 hb; replace HO_969007 := kr HO_969007 hb; replace HO_969008 := kr HO_969008 hb; replace HO_989000 := kr HO_989000 hb; replace HO_989004 := kr HO_989004 hb; replace HO_989006 := kr HO_989006 hb; replace HO_989007 := kr HO_989007 hb; replace HO_989008 := kr HO_989008 hb; replace HO_1010000 := kr HO_1010000 hb; replace HO_1010004 := kr HO_1010004 hb; replace HO_1010006 := kr HO_1010006 hb; replace HO_1010007 := kr HO_1010007 hb; replace HO_1010008 := kr HO_1010008 hb; replace HO1047 := kr HO1047 hb; replace HO1053 := kr HO1053 hb; replace HO1057 := kr HO1057 hb; replace HO1060 := kr HO1060 hb; replace HO1063 := kr HO1063 hb; replace HO1066 := kr HO1066 hb; replace HO1072 := kr HO1072 hb; replace HO1076 := kr HO1076 hb; replace HO1079 := kr HO1079 hb; replace HO1082 := kr HO1082 hb; have BK1084 := dk (hbox); have GW1084 := gs hg HB; have GE1084 := gs hg HB; replace HB := hs_ HB hb; have NB927_1084 := gn hg BK927; have NB1084_927 := gm hg BK927; replace BK927 := kb BK927 hb; have NB968_1084 := gn hg BK968; have NB1084_968 := gm hg BK968; replace BK968 := kb BK968 hb; have NB988_1084 := gn hg BK988; have NB1084_988 := gm hg BK988; replace BK988 := kb BK988 hb; have NB1009_1084 := gn hg BK1009; have NB1084_1009 := gm hg BK1009; replace BK1009 := kb BK1009 hb; clear hb hbox hg; obtain ⟨Ao138, co138, eo138⟩ := Kd.R_slice HO1066.out; subst eo138; have hnb139 := NB1084_927.out; have hnc139 := NB927_1084.out; have hnb140 := NB1084_968.out; have hnc140 := NB968_1084.out; have hnb141 := NB1084_988.out; have hnc141 := NB988_1084.out; have hnb142 := NB1084_1009.out; have hnc142 := NB1009_1084.out; have ⟨z143_0, z143_1, z143_2, z143_3, z143_4, z143_5, z143_6, z143_7, z143_8, v143_0, v143_1, v143_2, v143_3, v143_4, v143_5, v143_6, v143_7, v143_8⟩ := rz9 BK1084; obtain ⟨Ao144, co144, eo144⟩ := Kd.R_slice HO1072.out; subst eo144; obtain ⟨Ao145, co145, eo145⟩ := Kd.R_slice HO1076.out; subst eo145; obtain ⟨Ao146, co146, eo146⟩ := Kd.R_slice HO1079.out; subst eo146; obtain ⟨Ao147, co147, eo147⟩ := Kd.R_slice HO1082.out; subst eo147))
           (try simp only [Act.put, List.setIfInBounds_toArray, List.set_cons_zero, List.set_cons_succ])
           go_cut [97] (fun v97 wc => ∃ (kq : Nat) (x97_124 : Bool), v97 = .bool x97_124 ∧ Aside0 (laws_FnExactWithdraw.j2 kq t1038 x97_124 t1039 t992 t993 t994 t1040 t998 t1041 t1042 t1043 = some r) ∧ Aside0 (kq ≤ kj84) ∧ Aside0 (Kd.R k139 139 wc w.heap.size (fun k_ => nb k_ Ao34 t1032.length co34 ∧ nb k_ Ao44 t989.length co44 ∧ nb k_ Ao138 t1064.length co138) (.slice Ao24 t948.length co24) t948) ∧ Aside0 (Kd.R (Kd.int .i64) 3 wc w.heap.size (fun k_ => nb k_ Ao29 t961.length co29 ∧ nb k_ Ao30 t964.length co30 ∧ nb k_ Ao38 t1033.length co38 ∧ nb k_ Ao40 t1035.length co40 ∧ nb k_ Ao41 t1036.length co41 ∧ nb k_ Ao49 t995.length co49 ∧ nb k_ Ao51 t1002.length co51 ∧ nb k_ Ao52 t1005.length co52 ∧ nb k_ Ao144 t1070.length co144 ∧ nb k_ Ao146 t1077.length co146 ∧ nb k_ Ao147 t1080.length co147) (.slice Ao27 t954.length co27) t954) ∧ Aside0 (Kd.R k95 95 wc w.heap.size (fun k_ => nb k_ Ao39 t1034.length co39 ∧ nb k_ Ao50 t999.length co50 ∧ nb k_ Ao145 t1074.length co145) (.slice Ao28 t958.length co28) t958) ∧ Aside0 (Kd.R (Kd.int .i64) 3 wc w.heap.size (fun k_ => nb k_ Ao27 t954.length co27 ∧ nb k_ Ao30 t964.length co30 ∧ nb k_ Ao38 t1033.length co38 ∧ nb k_ Ao40 t1035.length co40 ∧ nb k_ Ao41 t1036.length co41 ∧ nb k_ Ao49 t995.length co49 ∧ nb k_ Ao51 t1002.length co51 ∧ nb k_ Ao52 t1005.length co52 ∧ nb k_ Ao144 t1070.length co144 ∧ nb k_ Ao146 t1077.length co146 ∧ nb k_ Ao147 t1080.length co147) (.slice Ao29 t961.length co29) t961) ∧ Aside0 (Kd.R (Kd.int .i64) 3 wc w.heap.size (fun k_ => nb k_ Ao27 t954.length co27 ∧ nb k_ Ao29 t961.length co29 ∧ nb k_ Ao38 t1033.length co38 ∧ nb k_ Ao40 t1035.length co40 ∧ nb k_ Ao41 t1036.length co41 ∧ nb k_ Ao49 t995.length co49 ∧ nb k_ Ao51 t1002.length co51 ∧ nb k_ Ao52 t1005.length co52 ∧ nb k_ Ao144 t1070.length co144 ∧ nb k_ Ao146 t1077.length co146 ∧ nb k_ Ao147 t1080.length co147) (.slice Ao30 t964.length co30) t964) ∧ Aside0 (Kd.R k139 139 wc w.heap.size (fun k_ => nb k_ Ao24 t948.length co24 ∧ nb k_ Ao44 t989.length co44 ∧ nb k_ Ao138 t1064.length co138) (.slice Ao34 t1032.length co34) t1032) ∧ Aside0 (Kd.R (Kd.int .i64) 3 wc w.heap.size (fun k_ => nb k_ Ao27 t954.length co27 ∧ nb k_ Ao29 t961.length co29 ∧ nb k_ Ao30 t964.length co30 ∧ nb k_ Ao40 t1035.length co40 ∧ nb k_ Ao41 t1036.length co41 ∧ nb k_ Ao49 t995.length co49 ∧ nb k_ Ao51 t1002.length co51 ∧ nb k_ Ao52 t1005.length co52 ∧ nb k_ Ao144 t1070.length co144 ∧ nb k_ Ao146 t1077.length co146 ∧ nb k_ Ao147 t1080.length co147) (.slice Ao38 t1033.length co38) t1033) ∧ Aside0 (Kd.R k95 95 wc w.heap.size (fun k_ => nb k_ Ao28 t958.length co28 ∧ nb k_ Ao50 t999.length co50 ∧ nb k_ Ao145 t1074.length co145) (.slice Ao39 t1034.length co39) t1034) ∧ Aside0 (Kd.R (Kd.int .i64) 3 wc w.heap.size (fun k_ => nb k_ Ao27 t954.length co27 ∧ nb k_ Ao29 t961.length co29 ∧ nb k_ Ao30 t964.length co30 ∧ nb k_ Ao38 t1033.length co38 ∧ nb k_ Ao41 t1036.length co41 ∧ nb k_ Ao49 t995.length co49 ∧ nb k_ Ao51 t1002.length co51 ∧ nb k_ Ao52 t1005.length co52 ∧ nb k_ Ao144 t1070.length co144 ∧ nb k_ Ao146 t1077.length co146 ∧ nb k_ Ao147 t1080.length co147) (.slice Ao40 t1035.length co40) t1035) ∧ Aside0 (Kd.R (Kd.int .i64) 3 wc w.heap.size (fun k_ => nb k_ Ao27 t954.length co27 ∧ nb k_ Ao29 t961.length co29 ∧ nb k_ Ao30 t964.length co30 ∧ nb k_ Ao38 t1033.length co38 ∧ nb k_ Ao40 t1035.length co40 ∧ nb k_ Ao49 t995.length co49 ∧ nb k_ Ao51 t1002.length co51 ∧ nb k_ Ao52 t1005.length co52 ∧ nb k_ Ao144 t1070.length co144 ∧ nb k_ Ao146 t1077.length co146 ∧ nb k_ Ao147 t1080.length co147) (.slice Ao41 t1036.length co41) t1036) ∧ Aside0 (Kd.R k139 139 wc w.heap.size (fun k_ => nb k_ Ao24 t948.length co24 ∧ nb k_ Ao34 t1032.length co34 ∧ nb k_ Ao138 t1064.length co138) (.slice Ao44 t989.length co44) t1039) ∧ Aside0 (Kd.R (Kd.int .i64) 3 wc w.heap.size (fun k_ => nb k_ Ao27 t954.length co27 ∧ nb k_ Ao29 t961.length co29 ∧ nb k_ Ao30 t964.length co30 ∧ nb k_ Ao38 t1033.length co38 ∧ nb k_ Ao40 t1035.length co40 ∧ nb k_ Ao41 t1036.length co41 ∧ nb k_ Ao51 t1002.length co51 ∧ nb k_ Ao52 t1005.length co52 ∧ nb k_ Ao144 t1070.length co144 ∧ nb k_ Ao146 t1077.length co146 ∧ nb k_ Ao147 t1080.length co147) (.slice Ao49 t995.length co49) t1040) ∧ Aside0 (Kd.R k95 95 wc w.heap.size (fun k_ => nb k_ Ao28 t958.length co28 ∧ nb k_ Ao39 t1034.length co39 ∧ nb k_ Ao145 t1074.length co145) (.slice Ao50 t999.length co50) t1041) ∧ Aside0 (Kd.R (Kd.int .i64) 3 wc w.heap.size (fun k_ => nb k_ Ao27 t954.length co27 ∧ nb k_ Ao29 t961.length co29 ∧ nb k_ Ao30 t964.length co30 ∧ nb k_ Ao38 t1033.length co38 ∧ nb k_ Ao40 t1035.length co40 ∧ nb k_ Ao41 t1036.length co41 ∧ nb k_ Ao49 t995.length co49 ∧ nb k_ Ao52 t1005.length co52 ∧ nb k_ Ao144 t1070.length co144 ∧ nb k_ Ao146 t1077.length co146 ∧ nb k_ Ao147 t1080.length co147) (.slice Ao51 t1002.length co51) t1042) ∧ Aside0 (Kd.R (Kd.int .i64) 3 wc w.heap.size (fun k_ => nb k_ Ao27 t954.length co27 ∧ nb k_ Ao29 t961.length co29 ∧ nb k_ Ao30 t964.length co30 ∧ nb k_ Ao38 t1033.length co38 ∧ nb k_ Ao40 t1035.length co40 ∧ nb k_ Ao41 t1036.length co41 ∧ nb k_ Ao49 t995.length co49 ∧ nb k_ Ao51 t1002.length co51 ∧ nb k_ Ao144 t1070.length co144 ∧ nb k_ Ao146 t1077.length co146 ∧ nb k_ Ao147 t1080.length co147) (.slice Ao52 t1005.length co52) t1043) ∧ Aside0 (Kd.R k139 139 wc w.heap.size (fun k_ => nb k_ Ao24 t948.length co24 ∧ nb k_ Ao34 t1032.length co34 ∧ nb k_ Ao44 t989.length co44) (.slice Ao138 t1064.length co138) t1064) ∧ Aside0 (Kd.R (Kd.int .i64) 3 wc w.heap.size (fun k_ => nb k_ Ao27 t954.length co27 ∧ nb k_ Ao29 t961.length co29 ∧ nb k_ Ao30 t964.length co30 ∧ nb k_ Ao38 t1033.length co38 ∧ nb k_ Ao40 t1035.length co40 ∧ nb k_ Ao41 t1036.length co41 ∧ nb k_ Ao49 t995.length co49 ∧ nb k_ Ao51 t1002.length co51 ∧ nb k_ Ao52 t1005.length co52 ∧ nb k_ Ao146 t1077.length co146 ∧ nb k_ Ao147 t1080.length co147) (.slice Ao144 t1070.length co144) t1070) ∧ Aside0 (Kd.R k95 95 wc w.heap.size (fun k_ => nb k_ Ao28 t958.length co28 ∧ nb k_ Ao39 t1034.length co39 ∧ nb k_ Ao50 t999.length co50) (.slice Ao145 t1074.length co145) t1074) ∧ Aside0 (Kd.R (Kd.int .i64) 3 wc w.heap.size (fun k_ => nb k_ Ao27 t954.length co27 ∧ nb k_ Ao29 t961.length co29 ∧ nb k_ Ao30 t964.length co30 ∧ nb k_ Ao38 t1033.length co38 ∧ nb k_ Ao40 t1035.length co40 ∧ nb k_ Ao41 t1036.length co41 ∧ nb k_ Ao49 t995.length co49 ∧ nb k_ Ao51 t1002.length co51 ∧ nb k_ Ao52 t1005.length co52 ∧ nb k_ Ao144 t1070.length co144 ∧ nb k_ Ao147 t1080.length co147) (.slice Ao146 t1077.length co146) t1077) ∧ Aside0 (Kd.R (Kd.int .i64) 3 wc w.heap.size (fun k_ => nb k_ Ao27 t954.length co27 ∧ nb k_ Ao29 t961.length co29 ∧ nb k_ Ao30 t964.length co30 ∧ nb k_ Ao38 t1033.length co38 ∧ nb k_ Ao40 t1035.length co40 ∧ nb k_ Ao41 t1036.length co41 ∧ nb k_ Ao49 t995.length co49 ∧ nb k_ Ao51 t1002.length co51 ∧ nb k_ Ao52 t1005.length co52 ∧ nb k_ Ao144 t1070.length co144 ∧ nb k_ Ao146 t1077.length co146) (.slice Ao147 t1080.length co147) t1080) ∧ Aside0 (wc.heap[gb927]? = some (.cells #[(.slice A0_0 l0_0.length c0_0), .int .i64 a0_1, .int .i64 a0_2, .int .i64 a0_3, (.slice A0_4 l0_4.length c0_4), .bool a0_5, (.slice A0_6 l0_6.length c0_6), (.slice A0_7 l0_7.length c0_7), (.slice A0_8 l0_8.length c0_8)] 28 (0, 0))) ∧ Aside0 (wc.heap[gb968]? = some (.cells #[(.slice Ao24 t948.length co24), .int .i64 t951, .int .i64 t952, .int .i64 t953, (.slice Ao27 t954.length co27), .bool t957, (.slice Ao28 t958.length co28), (.slice Ao29 t961.length co29), (.slice Ao30 t964.length co30)] 36 (0, 0))) ∧ Aside0 (wc.heap[gb988]? = some (.cells #[(.slice Ao34 t1032.length co34), .int .i64 t972, .int .i64 t973, .int .i64 t974, (.slice Ao38 t1033.length co38), .bool t978, (.slice Ao39 t1034.length co39), (.slice Ao40 t1035.length co40), (.slice Ao41 t1036.length co41)] 36 (0, 0))) ∧ Aside0 (wc.heap[gb1009]? = some (.cells #[(.slice Ao44 t989.length co44), .int .i64 t992, .int .i64 t993, .int .i64 t994, (.slice Ao49 t995.length co49), .bool t998, (.slice Ao50 t999.length co50), (.slice Ao51 t1002.length co51), (.slice Ao52 t1005.length co52)] 36 (0, 0))) ∧ Aside0 (wc.heap[gb1084]? = some (.cells #[(.slice Ao138 t1064.length co138), .int .i64 t1067, .int .i64 t1068, .int .i64 t1069, (.slice Ao144 t1070.length co144), .bool t1073, (.slice Ao145 t1074.length co145), (.slice Ao146 t1077.length co146), (.slice Ao147 t1080.length co147)] 36 (0, 0))) ∧ Aside0 (Below w.heap.size w wc))
           case first =>
            have H := HC125.out
            clear HC125
            replace H := Option.bind_eq_some_iff.mp H
            obtain ⟨t1085, A1480, H⟩ := H
            try dsimp only at H
            have A148 := dk A1480
            clear A1480
            by_cases c149 : t1085 = true
            ·subst c149
             rw [if_pos rfl] at H
             have H' := dk H
             clear H
             have hnb150 := NB1084_927.out
             have hnc150 := NB927_1084.out
             have hnb151 := NB1084_968.out
             have hnc151 := NB968_1084.out
             have hnb152 := NB1084_988.out
             have hnc152 := NB988_1084.out
             have hnb153 := NB1084_1009.out
             have hnc153 := NB1009_1084.out
             have ⟨z154_0, z154_1, z154_2, z154_3, z154_4, z154_5, z154_6, z154_7, z154_8, v154_0, v154_1, v154_2, v154_3, v154_4, v154_5, v154_6, v154_7, v154_8⟩ := rz9 BK1084
             have hnb155 := NB968_927.out
             have hnc155 := NB927_968.out
             have hnb156 := NB968_988.out
             have hnc156 := NB988_968.out
             have hnb157 := NB968_1009.out
             have hnc157 := NB1009_968.out
             have ⟨z158_0, z158_1, z158_2, z158_3, z158_4, z158_5, z158_6, z158_7, z158_8, v158_0, v158_1, v158_2, v158_3, v158_4, v158_5, v158_6, v158_7, v158_8⟩ := rz9 BK968
             go_wp2_with (first | ((with_reducible refine gate_callee (f := 16) rfl ?_); refine gl (some 91) Try.func16 #[.agg #[.slice Ao138 t1064.length co138, .int .i64 t1067, .int .i64 t1068, .int .i64 t1069, .slice Ao144 t1070.length co144, .bool t1073, .slice Ao145 t1074.length co145, .slice Ao146 t1077.length co146, .slice Ao147 t1080.length co147], .agg #[.slice Ao24 t948.length co24, .int .i64 t951, .int .i64 t952, .int .i64 t953, .slice Ao27 t954.length co27, .bool t957, .slice Ao28 t958.length co28, .slice Ao29 t961.length co29, .slice Ao30 t964.length co30]] ?_; (with_reducible refine (laws_eqBook.calls kj84 _ _ t1064 t1067 t1068 t1069 _ _ t1070 t1073 _ _ t1074 _ _ t1077 _ _ t1080 _ _ t948 t951 t952 t953 _ _ t954 t957 _ _ t958 _ _ t961 _ _ t964 true _ ?side1 ?side2 ?side3 ?side4 ?side5 ?side6 ?side7 ?side8 ?side9 ?side10 ?side11 ?side12 ?side13 ?side14 ?side15 ?side16 ?side17 ?side18 ?side19 ?side20 A148.out).mono ?_); (case side1 => exact cf HO1066 BK1084); (case side2 => exact cl HO1066); (case side3 => exact cf HO1072 BK1084); (case side4 => exact cl HO1072); (case side5 => exact cf HO1076 BK1084); (case side6 => exact cl HO1076); (case side7 => exact cf HO1079 BK1084); (case side8 => exact cl HO1079); (case side9 => exact cf HO1082 BK1084); (case side10 => exact cl HO1082); (case side11 => exact cf HO_969000 BK1084); (case side12 => exact cl HO_969000); (case side13 => exact cf HO_969004 BK1084); (case side14 => exact cl HO_969004); (case side15 => exact cf HO_969006 BK1084); (case side16 => exact cl HO_969006); (case side17 => exact cf HO_969007 BK1084); (case side18 => exact cl HO_969007); (case side19 => exact cf HO_969008 BK1084); (case side20 => exact cl HO_969008); rintro e w159 ⟨rfl, hb⟩; refine ⟨_, rfl, ?_⟩; replace HO_969000 := kf HO_969000 BK1084 hb; replace HO_969004 := kf HO_969004 BK1084 hb; replace HO_969006 := kf HO_969006 BK1084 hb; replace HO_969007 := kf HO_969007 BK1084 hb; replace HO_969008 := kf HO_969008 BK1084 hb; replace HO_989000 := kf HO_989000 BK1084 hb; replace HO_989004 := kf HO_989004 BK1084 hb; replace HO_989006 := kf HO_989006 BK1084 hb; replace HO_989007 := kf HO_989007 BK1084 hb; replace HO_989008 := kf HO_989008 BK1084 hb; replace HO_1010000 := kf HO_1010000 BK1084 hb; replace HO_1010004 := kf HO_1010004 BK1084 hb; replace HO_1010006 := kf HO_1010006 BK1084 hb; replace HO_1010007 := kf HO_1010007 BK1084 hb; replace HO_1010008 := kf HO_1010008 BK1084 hb; replace HO1047 := kf HO1047 BK1084 hb; replace HO1053 := kf HO1053 BK1084 hb; replace HO1057 := kf HO1057 BK1084 hb; replace HO1060 := kf HO1060 BK1084 hb; replace HO1063 := kf HO1063 BK1084 hb; replace HO1066 := kf HO1066 BK1084 hb; replace HO1072 := kf HO1072 BK1084 hb; replace HO1076 := kf HO1076 BK1084 hb; replace HO1079 := kf HO1079 BK1084 hb; replace HO1082 := kf HO1082 BK1084 hb; replace BK927 := dk (blk_below (bf NB927_1084.out BK927) hb); replace BK968 := dk (blk_below (bf NB968_1084.out BK968) hb); replace BK988 := dk (blk_below (bf NB988_1084.out BK988) hb); replace BK1009 := dk (blk_below (bf NB1009_1084.out BK1009) hb); replace BK1084 := dk (blk_below (g := gb1084) (o := .cells #[.slice Ao138 t1064.length co138, .int .i64 t1067, .int .i64 t1068, .int .i64 t1069, .slice Ao144 t1070.length co144, .bool t1073, .slice Ao145 t1074.length co145, .slice Ao146 t1077.length co146, .slice Ao147 t1080.length co147] 36 (0, 0)) (bp BK1084) hb); replace HB := hs_ HB hb; (try clear hb hb2 hk hi)))
             go_meet
             case rel => exact ⟨_, ((t1083 != t967)), e2_, H', ⟨by have := HJ13.out; have := HJ84.out; first | omega | exact Nat.le_refl _⟩, ⟨by (try simp only [hl989000_84, hl989004_84, hl989006_84, hl989007_84, hl989008_84]); exact rp HO_969000⟩, ⟨by (try simp only [hl989000_84, hl989004_84, hl989006_84, hl989007_84, hl989008_84]); exact rp HO_969004⟩, ⟨by (try simp only [hl989000_84, hl989004_84, hl989006_84, hl989007_84, hl989008_84]); exact rp HO_969006⟩, ⟨by (try simp only [hl989000_84, hl989004_84, hl989006_84, hl989007_84, hl989008_84]); exact rp HO_969007⟩, ⟨by (try simp only [hl989000_84, hl989004_84, hl989006_84, hl989007_84, hl989008_84]); exact rp HO_969008⟩, ⟨by (try simp only [hl989000_84, hl989004_84, hl989006_84, hl989007_84, hl989008_84]); exact rp HO_989000⟩, ⟨by (try simp only [hl989000_84, hl989004_84, hl989006_84, hl989007_84, hl989008_84]); exact rp HO_989004⟩, ⟨by (try simp only [hl989000_84, hl989004_84, hl989006_84, hl989007_84, hl989008_84]); exact rp HO_989006⟩, ⟨by (try simp only [hl989000_84, hl989004_84, hl989006_84, hl989007_84, hl989008_84]); exact rp HO_989007⟩, ⟨by (try simp only [hl989000_84, hl989004_84, hl989006_84, hl989007_84, hl989008_84]); exact rp HO_989008⟩, ⟨by (try simp only [hl989000_84, hl989004_84, hl989006_84, hl989007_84, hl989008_84]); exact rp HO_1010000⟩, ⟨by (try simp only [hl989000_84, hl989004_84, hl989006_84, hl989007_84, hl989008_84]); exact rp HO_1010004⟩, ⟨by (try simp only [hl989000_84, hl989004_84, hl989006_84, hl989007_84, hl989008_84]); exact rp HO_1010006⟩, ⟨by (try simp only [hl989000_84, hl989004_84, hl989006_84, hl989007_84, hl989008_84]); exact rp HO_1010007⟩, ⟨by (try simp only [hl989000_84, hl989004_84, hl989006_84, hl989007_84, hl989008_84]); exact rp HO_1010008⟩, ⟨by (try simp only [hl989000_84, hl989004_84, hl989006_84, hl989007_84, hl989008_84]); exact rp HO1066⟩, ⟨by (try simp only [hl989000_84, hl989004_84, hl989006_84, hl989007_84, hl989008_84]); exact rp HO1072⟩, ⟨by (try simp only [hl989000_84, hl989004_84, hl989006_84, hl989007_84, hl989008_84]); exact rp HO1076⟩, ⟨by (try simp only [hl989000_84, hl989004_84, hl989006_84, hl989007_84, hl989008_84]); exact rp HO1079⟩, ⟨by (try simp only [hl989000_84, hl989004_84, hl989006_84, hl989007_84, hl989008_84]); exact rp HO1082⟩, ⟨by (try simp only [hl989000_84]); (try simp only [hl989004_84]); (try simp only [hl989006_84]); (try simp only [hl989007_84]); (try simp only [hl989008_84]); (with_reducible repeat (first | refine blk_drewN ?_ _ | refine blk_drew ?_ | refine blk_alloc ?_ _)); exact BK927.out⟩, ⟨by (try simp only [hl989000_84]); (try simp only [hl989004_84]); (try simp only [hl989006_84]); (try simp only [hl989007_84]); (try simp only [hl989008_84]); (with_reducible repeat (first | refine blk_drewN ?_ _ | refine blk_drew ?_ | refine blk_alloc ?_ _)); exact BK968.out⟩, ⟨by (try simp only [hl989000_84]); (try simp only [hl989004_84]); (try simp only [hl989006_84]); (try simp only [hl989007_84]); (try simp only [hl989008_84]); (with_reducible repeat (first | refine blk_drewN ?_ _ | refine blk_drew ?_ | refine blk_alloc ?_ _)); exact BK988.out⟩, ⟨by (try simp only [hl989000_84]); (try simp only [hl989004_84]); (try simp only [hl989006_84]); (try simp only [hl989007_84]); (try simp only [hl989008_84]); (with_reducible repeat (first | refine blk_drewN ?_ _ | refine blk_drew ?_ | refine blk_alloc ?_ _)); exact BK1009.out⟩, ⟨by (try simp only [hl989000_84]); (try simp only [hl989004_84]); (try simp only [hl989006_84]); (try simp only [hl989007_84]); (try simp only [hl989008_84]); (with_reducible repeat (first | refine blk_drewN ?_ _ | refine blk_drew ?_ | refine blk_alloc ?_ _)); exact BK1084.out⟩, ⟨bb HB⟩⟩
            ·replace c149 := Bool.eq_false_iff.mpr c149
             subst c149
             rw [if_neg (show ¬ (false = true) by decide)] at H
             have H' := dk H
             clear H
             have hnb160 := NB1084_927.out
             have hnc160 := NB927_1084.out
             have hnb161 := NB1084_968.out
             have hnc161 := NB968_1084.out
             have hnb162 := NB1084_988.out
             have hnc162 := NB988_1084.out
             have hnb163 := NB1084_1009.out
             have hnc163 := NB1009_1084.out
             have ⟨z164_0, z164_1, z164_2, z164_3, z164_4, z164_5, z164_6, z164_7, z164_8, v164_0, v164_1, v164_2, v164_3, v164_4, v164_5, v164_6, v164_7, v164_8⟩ := rz9 BK1084
             have hnb165 := NB968_927.out
             have hnc165 := NB927_968.out
             have hnb166 := NB968_988.out
             have hnc166 := NB988_968.out
             have hnb167 := NB968_1009.out
             have hnc167 := NB1009_968.out
             have ⟨z168_0, z168_1, z168_2, z168_3, z168_4, z168_5, z168_6, z168_7, z168_8, v168_0, v168_1, v168_2, v168_3, v168_4, v168_5, v168_6, v168_7, v168_8⟩ := rz9 BK968
             go_wp2_with (first | ((with_reducible refine gate_callee (f := 16) rfl ?_); refine gl (some 91) Try.func16 #[.agg #[.slice Ao138 t1064.length co138, .int .i64 t1067, .int .i64 t1068, .int .i64 t1069, .slice Ao144 t1070.length co144, .bool t1073, .slice Ao145 t1074.length co145, .slice Ao146 t1077.length co146, .slice Ao147 t1080.length co147], .agg #[.slice Ao24 t948.length co24, .int .i64 t951, .int .i64 t952, .int .i64 t953, .slice Ao27 t954.length co27, .bool t957, .slice Ao28 t958.length co28, .slice Ao29 t961.length co29, .slice Ao30 t964.length co30]] ?_; (with_reducible refine (laws_eqBook.calls kj84 _ _ t1064 t1067 t1068 t1069 _ _ t1070 t1073 _ _ t1074 _ _ t1077 _ _ t1080 _ _ t948 t951 t952 t953 _ _ t954 t957 _ _ t958 _ _ t961 _ _ t964 false _ ?side1 ?side2 ?side3 ?side4 ?side5 ?side6 ?side7 ?side8 ?side9 ?side10 ?side11 ?side12 ?side13 ?side14 ?side15 ?side16 ?side17 ?side18 ?side19 ?side20 A148.out).mono ?_); (case side1 => exact cf HO1066 BK1084); (case side2 => exact cl HO1066); (case side3 => exact cf HO1072 BK1084); (case side4 => exact cl HO1072); (case side5 => exact cf HO1076 BK1084); (case side6 => exact cl HO1076); (case side7 => exact cf HO1079 BK1084); (case side8 => exact cl HO1079); (case side9 => exact cf HO1082 BK1084); (case side10 => exact cl HO1082); (case side11 => exact cf HO_969000 BK1084); (case side12 => exact cl HO_969000); (case side13 => exact cf HO_969004 BK1084); (case side14 => exact cl HO_969004); (case side15 => exact cf HO_969006 BK1084); (case side16 => exact cl HO_969006); (case side17 => exact cf HO_969007 BK1084); (case side18 => exact cl HO_969007); (case side19 => exact cf HO_969008 BK1084); (case side20 => exact cl HO_969008); rintro e w169 ⟨rfl, hb⟩; refine ⟨_, rfl, ?_⟩; replace HO_969000 := kf HO_969000 BK1084 hb; replace HO_969004 := kf HO_969004 BK1084 hb; replace HO_969006 := kf HO_969006 BK1084 hb; replace HO_969007 := kf HO_969007 BK1084 hb; replace HO_969008 := kf HO_969008 BK1084 hb; replace HO_989000 := kf HO_989000 BK1084 hb; replace HO_989004 := kf HO_989004 BK1084 hb; replace HO_989006 := kf HO_989006 BK1084 hb; replace HO_989007 := kf HO_989007 BK1084 hb; replace HO_989008 := kf HO_989008 BK1084 hb; replace HO_1010000 := kf HO_1010000 BK1084 hb; replace HO_1010004 := kf HO_1010004 BK1084 hb; replace HO_1010006 := kf HO_1010006 BK1084 hb; replace HO_1010007 := kf HO_1010007 BK1084 hb; replace HO_1010008 := kf HO_1010008 BK1084 hb; replace HO1047 := kf HO1047 BK1084 hb; replace HO1053 := kf HO1053 BK1084 hb; replace HO1057 := kf HO1057 BK1084 hb; replace HO1060 := kf HO1060 BK1084 hb; replace HO1063 := kf HO1063 BK1084 hb; replace HO1066 := kf HO1066 BK1084 hb; replace HO1072 := kf HO1072 BK1084 hb; replace HO1076 := kf HO1076 BK1084 hb; replace HO1079 := kf HO1079 BK1084 hb; replace HO1082 := kf HO1082 BK1084 hb; replace BK927 := dk (blk_below (bf NB927_1084.out BK927) hb); replace BK968 := dk (blk_below (bf NB968_1084.out BK968) hb); replace BK988 := dk (blk_below (bf NB988_1084.out BK988) hb); replace BK1009 := dk (blk_below (bf NB1009_1084.out BK1009) hb); replace BK1084 := dk (blk_below (g := gb1084) (o := .cells #[.slice Ao138 t1064.length co138, .int .i64 t1067, .int .i64 t1068, .int .i64 t1069, .slice Ao144 t1070.length co144, .bool t1073, .slice Ao145 t1074.length co145, .slice Ao146 t1077.length co146, .slice Ao147 t1080.length co147] 36 (0, 0)) (bp BK1084) hb); replace HB := hs_ HB hb; (try clear hb hb2 hk hi)))
             go_meet
             case rel => exact ⟨_, (true), e2_, H', ⟨by have := HJ13.out; have := HJ84.out; first | omega | exact Nat.le_refl _⟩, ⟨by (try simp only [hl989000_84, hl989004_84, hl989006_84, hl989007_84, hl989008_84]); exact rp HO_969000⟩, ⟨by (try simp only [hl989000_84, hl989004_84, hl989006_84, hl989007_84, hl989008_84]); exact rp HO_969004⟩, ⟨by (try simp only [hl989000_84, hl989004_84, hl989006_84, hl989007_84, hl989008_84]); exact rp HO_969006⟩, ⟨by (try simp only [hl989000_84, hl989004_84, hl989006_84, hl989007_84, hl989008_84]); exact rp HO_969007⟩, ⟨by (try simp only [hl989000_84, hl989004_84, hl989006_84, hl989007_84, hl989008_84]); exact rp HO_969008⟩, ⟨by (try simp only [hl989000_84, hl989004_84, hl989006_84, hl989007_84, hl989008_84]); exact rp HO_989000⟩, ⟨by (try simp only [hl989000_84, hl989004_84, hl989006_84, hl989007_84, hl989008_84]); exact rp HO_989004⟩, ⟨by (try simp only [hl989000_84, hl989004_84, hl989006_84, hl989007_84, hl989008_84]); exact rp HO_989006⟩, ⟨by (try simp only [hl989000_84, hl989004_84, hl989006_84, hl989007_84, hl989008_84]); exact rp HO_989007⟩, ⟨by (try simp only [hl989000_84, hl989004_84, hl989006_84, hl989007_84, hl989008_84]); exact rp HO_989008⟩, ⟨by (try simp only [hl989000_84, hl989004_84, hl989006_84, hl989007_84, hl989008_84]); exact rp HO_1010000⟩, ⟨by (try simp only [hl989000_84, hl989004_84, hl989006_84, hl989007_84, hl989008_84]); exact rp HO_1010004⟩, ⟨by (try simp only [hl989000_84, hl989004_84, hl989006_84, hl989007_84, hl989008_84]); exact rp HO_1010006⟩, ⟨by (try simp only [hl989000_84, hl989004_84, hl989006_84, hl989007_84, hl989008_84]); exact rp HO_1010007⟩, ⟨by (try simp only [hl989000_84, hl989004_84, hl989006_84, hl989007_84, hl989008_84]); exact rp HO_1010008⟩, ⟨by (try simp only [hl989000_84, hl989004_84, hl989006_84, hl989007_84, hl989008_84]); exact rp HO1066⟩, ⟨by (try simp only [hl989000_84, hl989004_84, hl989006_84, hl989007_84, hl989008_84]); exact rp HO1072⟩, ⟨by (try simp only [hl989000_84, hl989004_84, hl989006_84, hl989007_84, hl989008_84]); exact rp HO1076⟩, ⟨by (try simp only [hl989000_84, hl989004_84, hl989006_84, hl989007_84, hl989008_84]); exact rp HO1079⟩, ⟨by (try simp only [hl989000_84, hl989004_84, hl989006_84, hl989007_84, hl989008_84]); exact rp HO1082⟩, ⟨by (try simp only [hl989000_84]); (try simp only [hl989004_84]); (try simp only [hl989006_84]); (try simp only [hl989007_84]); (try simp only [hl989008_84]); (with_reducible repeat (first | refine blk_drewN ?_ _ | refine blk_drew ?_ | refine blk_alloc ?_ _)); exact BK927.out⟩, ⟨by (try simp only [hl989000_84]); (try simp only [hl989004_84]); (try simp only [hl989006_84]); (try simp only [hl989007_84]); (try simp only [hl989008_84]); (with_reducible repeat (first | refine blk_drewN ?_ _ | refine blk_drew ?_ | refine blk_alloc ?_ _)); exact BK968.out⟩, ⟨by (try simp only [hl989000_84]); (try simp only [hl989004_84]); (try simp only [hl989006_84]); (try simp only [hl989007_84]); (try simp only [hl989008_84]); (with_reducible repeat (first | refine blk_drewN ?_ _ | refine blk_drew ?_ | refine blk_alloc ?_ _)); exact BK988.out⟩, ⟨by (try simp only [hl989000_84]); (try simp only [hl989004_84]); (try simp only [hl989006_84]); (try simp only [hl989007_84]); (try simp only [hl989008_84]); (with_reducible repeat (first | refine blk_drewN ?_ _ | refine blk_drew ?_ | refine blk_alloc ?_ _)); exact BK1009.out⟩, ⟨by (try simp only [hl989000_84]); (try simp only [hl989004_84]); (try simp only [hl989006_84]); (try simp only [hl989007_84]); (try simp only [hl989008_84]); (with_reducible repeat (first | refine blk_drewN ?_ _ | refine blk_drew ?_ | refine blk_alloc ?_ _)); exact BK1084.out⟩, ⟨bb HB⟩⟩
           case rest =>
            clear HC125
            (try clear c1)
            (try clear c2)
            (try clear p2)
            (try clear c7)
            (try clear c8)
            (try clear c9)
            (try clear c10)
            (try clear c11)
            (try clear c12)
            (try clear c13)
            (try clear c14)
            (try clear c15)
            (try clear c16)
            (try clear c18)
            (try clear c20)
            (try clear c25)
            (try clear c71)
            (try clear c83)
            (try clear c86)
            (try clear c87)
            (try clear c88)
            (try clear c91)
            (try clear c91b0)
            (try clear c91b1)
            (try clear c93)
            (try clear c94)
            (try clear c95)
            (try clear c96)
            (try clear c98)
            (try clear c99)
            (try clear c102)
            (try clear c103)
            (try clear c104)
            (try clear c106)
            (try clear c107)
            (try clear c110)
            (try clear c114)
            (try clear c115)
            (try clear c116)
            (try clear c121)
            (try clear c121b0)
            (try clear c121b1)
            (try clear c122)
            (try clear c122b0)
            (try clear c122b1)
            (try clear c126)
            (try clear c127)
            (try clear c128)
            (try clear c139)
            (try clear c140)
            (try clear c141)
            (try clear c142)
            (try clear c149)
            (try clear c150)
            (try clear c151)
            (try clear c152)
            (try clear c153)
            (try clear c155)
            (try clear c156)
            (try clear c157)
            (try clear c160)
            (try clear c161)
            (try clear c162)
            (try clear c163)
            (try clear c165)
            (try clear c166)
            (try clear c167)
            (try clear z100_0 z100_1 z100_2 z100_3 z100_4 z100_5 z100_6 z100_7 z100_8)
            (try clear z105_0 z105_1 z105_2 z105_3 z105_4 z105_5 z105_6 z105_7 z105_8)
            (try clear z108_0 z108_1 z108_2 z108_3 z108_4 z108_5 z108_6 z108_7 z108_8)
            (try clear z117_0 z117_1 z117_2 z117_3 z117_4 z117_5 z117_6 z117_7 z117_8)
            (try clear z119_0 z119_1 z119_2 z119_3 z119_4 z119_5 z119_6 z119_7 z119_8)
            (try clear z129_0 z129_1 z129_2 z129_3 z129_4 z129_5 z129_6 z129_7 z129_8)
            (try clear z143_0 z143_1 z143_2 z143_3 z143_4 z143_5 z143_6 z143_7 z143_8)
            (try clear z154_0 z154_1 z154_2 z154_3 z154_4 z154_5 z154_6 z154_7 z154_8)
            (try clear z158_0 z158_1 z158_2 z158_3 z158_4 z158_5 z158_6 z158_7 z158_8)
            (try clear z164_0 z164_1 z164_2 z164_3 z164_4 z164_5 z164_6 z164_7 z164_8)
            (try clear z168_0 z168_1 z168_2 z168_3 z168_4 z168_5 z168_6 z168_7 z168_8)
            (try clear z89_0 z89_1 z89_2 z89_3 z89_4 z89_5 z89_6 z89_7 z89_8)
            (try clear z97_0 z97_1 z97_2 z97_3 z97_4 z97_5 z97_6 z97_7 z97_8)
            (try clear v100_0 v100_1 v100_2 v100_3 v100_4 v100_5 v100_6 v100_7 v100_8)
            (try clear v105_0 v105_1 v105_2 v105_3 v105_4 v105_5 v105_6 v105_7 v105_8)
            (try clear v108_0 v108_1 v108_2 v108_3 v108_4 v108_5 v108_6 v108_7 v108_8)
            (try clear v117_0 v117_1 v117_2 v117_3 v117_4 v117_5 v117_6 v117_7 v117_8)
            (try clear v119_0 v119_1 v119_2 v119_3 v119_4 v119_5 v119_6 v119_7 v119_8)
            (try clear v129_0 v129_1 v129_2 v129_3 v129_4 v129_5 v129_6 v129_7 v129_8)
            (try clear v143_0 v143_1 v143_2 v143_3 v143_4 v143_5 v143_6 v143_7 v143_8)
            (try clear v154_0 v154_1 v154_2 v154_3 v154_4 v154_5 v154_6 v154_7 v154_8)
            (try clear v158_0 v158_1 v158_2 v158_3 v158_4 v158_5 v158_6 v158_7 v158_8)
            (try clear v164_0 v164_1 v164_2 v164_3 v164_4 v164_5 v164_6 v164_7 v164_8)
            (try clear v168_0 v168_1 v168_2 v168_3 v168_4 v168_5 v168_6 v168_7 v168_8)
            (try clear v31_1 v31_2 v31_3 v31_4 v31_5 v31_6 v31_7 v31_8)
            (try clear v37_0 v37_1 v37_2 v37_3 v37_4 v37_5 v37_6 v37_7 v37_8)
            (try clear v48_0 v48_1 v48_2 v48_3 v48_4 v48_5 v48_6 v48_7 v48_8)
            (try clear v58_0 v58_1 v58_2 v58_3 v58_4 v58_5 v58_6 v58_7 v58_8)
            (try clear v61_0 v61_1 v61_2 v61_3 v61_4 v61_5 v61_6 v61_7 v61_8)
            (try clear v66_0 v66_1 v66_2 v66_3 v66_4 v66_5 v66_6 v66_7 v66_8)
            (try clear v69_0 v69_1 v69_2 v69_3 v69_4 v69_5 v69_6 v69_7 v69_8)
            (try clear v7_0 v7_1 v7_2 v7_3 v7_4 v7_5 v7_6 v7_7 v7_8)
            (try clear v89_0 v89_1 v89_2 v89_3 v89_4 v89_5 v89_6 v89_7 v89_8)
            (try clear v97_0 v97_1 v97_2 v97_3 v97_4 v97_5 v97_6 v97_7 v97_8)
            (try clear p2)
            obtain ⟨kq, x97_124, rfl, HA, HJ124, HO_969000, HO_969004, HO_969006, HO_969007, HO_969008, HO_989000, HO_989004, HO_989006, HO_989007, HO_989008, HO_1010000, HO_1010004, HO_1010006, HO_1010007, HO_1010008, HO_1085000, HO_1085004, HO_1085006, HO_1085007, HO_1085008, BK927, BK968, BK988, BK1009, BK1084, HB⟩ := hcut
            have hl1010000_124 := (Kd.R_reads' HO_1010000.out).1
            rw [hl1010000_124] at HO_1010000
            (try simp only [hl1010000_124] at BK927 BK968 BK988 BK1009 BK1084 HO_969000 HO_969004 HO_969006 HO_969007 HO_969008 HO_989000 HO_989004 HO_989006 HO_989007 HO_989008 HO_1010004 HO_1010006 HO_1010007 HO_1010008 HO_1085000 HO_1085004 HO_1085006 HO_1085007 HO_1085008 ⊢)
            have hl1010004_124 := (Kd.R_reads' HO_1010004.out).1
            rw [hl1010004_124] at HO_1010004
            (try simp only [hl1010004_124] at BK927 BK968 BK988 BK1009 BK1084 HO_969000 HO_969004 HO_969006 HO_969007 HO_969008 HO_989000 HO_989004 HO_989006 HO_989007 HO_989008 HO_1010000 HO_1010006 HO_1010007 HO_1010008 HO_1085000 HO_1085004 HO_1085006 HO_1085007 HO_1085008 ⊢)
            have hl1010006_124 := (Kd.R_reads' HO_1010006.out).1
            rw [hl1010006_124] at HO_1010006
            (try simp only [hl1010006_124] at BK927 BK968 BK988 BK1009 BK1084 HO_969000 HO_969004 HO_969006 HO_969007 HO_969008 HO_989000 HO_989004 HO_989006 HO_989007 HO_989008 HO_1010000 HO_1010004 HO_1010007 HO_1010008 HO_1085000 HO_1085004 HO_1085006 HO_1085007 HO_1085008 ⊢)
            have hl1010007_124 := (Kd.R_reads' HO_1010007.out).1
            rw [hl1010007_124] at HO_1010007
            (try simp only [hl1010007_124] at BK927 BK968 BK988 BK1009 BK1084 HO_969000 HO_969004 HO_969006 HO_969007 HO_969008 HO_989000 HO_989004 HO_989006 HO_989007 HO_989008 HO_1010000 HO_1010004 HO_1010006 HO_1010008 HO_1085000 HO_1085004 HO_1085006 HO_1085007 HO_1085008 ⊢)
            have hl1010008_124 := (Kd.R_reads' HO_1010008.out).1
            rw [hl1010008_124] at HO_1010008
            (try simp only [hl1010008_124] at BK927 BK968 BK988 BK1009 BK1084 HO_969000 HO_969004 HO_969006 HO_969007 HO_969008 HO_989000 HO_989004 HO_989006 HO_989007 HO_989008 HO_1010000 HO_1010004 HO_1010006 HO_1010007 HO_1085000 HO_1085004 HO_1085006 HO_1085007 HO_1085008 ⊢)
            cases kq with
            | zero => exact absurd HA.out (by simp [laws_FnExactWithdraw.j2])
            | succ kj124 =>
             have H := HA.out
             clear HA
             simp only [laws_FnExactWithdraw.j2] at H
             by_cases c170 : x97_124 = true
             ·subst c170
              rw [if_pos rfl] at H
              obtain rfl := Option.some.inj H
              go_wp2
              go_ret
              exact ⟨ee, bb HB⟩
             ·replace c170 := Bool.eq_false_iff.mpr c170
              subst c170
              rw [if_neg (show ¬ (false = true) by decide)] at H
              replace H := Option.bind_eq_some_iff.mp H
              obtain ⟨t1086, A1710, H⟩ := H
              try dsimp only at H
              have A171 := dk A1710
              clear A1710
              have HC172 := dk H
              clear H
              have hnb173 := NB1009_927.out
              have hnc173 := NB927_1009.out
              have hnb174 := NB1009_968.out
              have hnc174 := NB968_1009.out
              have hnb175 := NB1009_988.out
              have hnc175 := NB988_1009.out
              have hnb176 := NB1009_1084.out
              have hnc176 := NB1084_1009.out
              have ⟨z177_0, z177_1, z177_2, z177_3, z177_4, z177_5, z177_6, z177_7, z177_8, v177_0, v177_1, v177_2, v177_3, v177_4, v177_5, v177_6, v177_7, v177_8⟩ := rz9 BK1009
              go_upto_if 102 with (first | ((with_reducible refine gate_callee (f := 20) rfl ?_); refine gl (some 100) Try.func20 #[.agg #[.slice Ao44 t1039.length co44, .int .i64 t992, .int .i64 t993, .int .i64 t994, .slice Ao49 t1040.length co49, .bool t998, .slice Ao50 t1041.length co50, .slice Ao51 t1042.length co51, .slice Ao52 t1043.length co52], .int .i64 1] ?_; (with_reducible refine (laws_heldBook.calls kj124 _ _ t1039 t992 t993 t994 _ _ t1040 t998 _ _ t1041 _ _ t1042 _ _ t1043 1 t1086 _ ?side1 ?side2 ?side3 ?side4 ?side5 ?side6 ?side7 ?side8 ?side9 ?side10 A171.out).mono ?_); (case side1 => exact cr HO_1010000); (case side2 => exact cl HO_1010000); (case side3 => exact cr HO_1010004); (case side4 => exact cl HO_1010004); (case side5 => exact cr HO_1010006); (case side6 => exact cl HO_1010006); (case side7 => exact cr HO_1010007); (case side8 => exact cl HO_1010007); (case side9 => exact cr HO_1010008); (case side10 => exact cl HO_1010008); rintro e w178 ⟨rfl, hb⟩; refine ⟨_, rfl, ?_⟩; replace HO_969000 := kr HO_969000 hb; replace HO_969004 := kr HO_969004 hb; replace HO_969006 := kr HO_969006 hb; replace HO_969007 := kr HO_969007 hb; replace HO_969008 := kr HO_969008 hb; replace HO_989000 := kr HO_989000 hb; replace HO_989004 := kr HO_989004 hb; replace HO_989006 := kr HO_989006 hb; replace HO_989007 := kr HO_989007 hb; replace HO_989008 := kr HO_989008 hb; replace HO_1010000 := kr HO_1010000 hb; replace HO_1010004 := kr HO_1010004 hb; replace HO_1010006 := kr HO_1010006 hb; replace HO_1010007 := kr HO_1010007 hb; replace HO_1010008 := kr HO_1010008 hb; replace HO_1085000 := kr HO_1085000 hb; replace HO_1085004 := kr HO_1085004 hb; replace HO_1085006 := kr HO_1085006 hb; replace HO_1085007 := kr HO_1085007 hb; replace HO_1085008 := kr HO_1085008 hb; replace BK927 := kb BK927 hb; replace BK968 := kb BK968 hb; replace BK988 := kb BK988 hb; replace BK1009 := kb BK1009 hb; replace BK1084 := kb BK1084 hb; replace HB := hs_ HB hb; (try clear hb hb2 hk hi)))
              (try simp only [Act.put, List.setIfInBounds_toArray, List.set_cons_zero, List.set_cons_succ])
              have H := HC172.out
              clear HC172
              by_cases c179 : t1086 < 0
              ·rw [if_pos c179] at H
               have c179b0 : decide (t1086 < 0) = true := decide_eq_true c179
               clear c179
               (first | rw [c179b0] | rw [c179b1] | (simp only [i64_w, i32_w]; rw [c179b0]) | skip)
               obtain rfl := Option.some.inj H
               go_wp2
               go_ret
               exact ⟨ee, bb HB⟩
              ·rw [if_neg c179] at H
               have c179b0 : decide (t1086 < 0) = false := decide_eq_false c179
               clear c179
               (first | rw [c179b0] | rw [c179b1] | (simp only [i64_w, i32_w]; rw [c179b0]) | skip)
               by_cases c180 : t1086 = t1038
               ·rw [if_pos c180] at H
                have c180b0 : (t1086 == t1038) = true := beq_iff_eq.mpr c180
                have c180b1 : (t1086 != t1038) = false := bne_eq_false_iff_eq.mpr c180
                clear c180
                obtain rfl := Option.some.inj H
                go_wp2
                go_ret
                exact ⟨ee, bb HB⟩
               ·rw [if_neg c180] at H
                have c180b0 : (t1086 == t1038) = false := beq_eq_false_iff_ne.mpr c180
                have c180b1 : (t1086 != t1038) = true := bne_iff_ne.mpr c180
                obtain rfl := Option.some.inj H
                go_wp2
                go_ret
                exact ⟨ee, bb HB⟩
          ·rw [if_neg c122] at H
           have c122b0 : (t1044 == t1038) = false := beq_eq_false_iff_ne.mpr c122
           have c122b1 : (t1044 != t1038) = true := bne_iff_ne.mpr c122
           obtain rfl := Option.some.inj H
           go_wp2
           go_ret
           exact ⟨ee, bb HB⟩
     ·replace c83 := Bool.eq_false_iff.mpr c83
      subst c83
      rw [if_neg (show ¬ (false = true) by decide)] at H
      obtain rfl := Option.some.inj H
      go_wp2
      go_ret
      exact ⟨ee, bb HB⟩
end Go.Proofs.Ythfefanapneocaa.Q
end
namespace Go.Proofs.Ythfefanapneocaa.Opens
open Go.ChangeShapes Go.WideShapes Go.ChangeAt Go.RowKit Go.Proofs.Ythfefanapneocaa.Q Go.Proofs.YthfefanapneocaaW.PrintWords Go.Proofs.YthfefanapneocaaW.PrintLast
section
variable {H : Type} (enc : TypeId × Value → H) (P : Program) (W : World)
def Opens {α : Type} (t : TypeId) (d : Kd α) (ok : α → Prop) : Prop := ∀ (fuel : Nat) (cs : List Value) (x : DataW H × List MemPlace), DataW.trod enc P W 0 (fun _ => true) true fuel t cs = some x → ∃ a, d.K W a cs ∧ ok a
def OpensFs {α : Type} (off : Nat) (fs : List Field) (d : Kd α) (ok : α → Prop) : Prop :=
  ∀ (n : Nat) (cs : List Value) (xs : List (DataW H × List MemPlace)), (∀ (i : Nat) (f : Field), fs[i]? = some f → DataW.trod enc P W 0 (fun _ => true) true n f.type ((cs.drop f.offset).take (P.cellsOf f.type)) = xs[i]?) → xs.length = fs.length → cs.length = off + d.sz → ∃ a, d.K W a (cs.drop off) ∧ ok a
variable {enc P W}
variable {α β : Type} {t : TypeId} {d : Kd α} {d2 : Kd β} {ok : α → Prop} {ok2 : β → Prop}
theorem int {k : IntKind} (ht : P.underlying t = some (.int k)) : Opens enc P W t (Kd.int k) (fun n => (Lit.int k n).wf = true) := fun fuel cs x h => by
  obtain ⟨n, rfl, _, hw⟩ := DataW.trod_int ht h
  exact ⟨n, rfl, hw⟩
theorem bool (ht : P.underlying t = some .bool) : Opens enc P W t Kd.bool (fun _ => True) := fun fuel cs x h => by
  obtain ⟨b, rfl, _⟩ := DataW.trod_bool ht h
  exact ⟨b, rfl, trivial⟩
theorem string (ht : P.underlying t = some .string) : Opens enc P W t Kd.string (fun s => s.size ≤ maxLen) := fun fuel cs x h => by
  obtain ⟨s, rfl, _, hs⟩ := DataW.trod_string ht h
  exact ⟨s, rfl, hs⟩
theorem cells_get {w : World} {base : Nat} {a : Addr} {n : Nat} {cs : List Value} (h : w.cells? base a n = some cs) : cs.length = n ∧ ∀ i u, cs[i]? = some u → w.cell? (a.add i) = some u := by
  unfold World.cells? at h
  split at h
  · have hl := mapM_some_length h
    refine ⟨by simpa using hl, fun i u hi => ?_⟩
    have hlt : i < n := by have := (List.getElem?_eq_some_iff.mp hi).1; simp at hl; omega
    have := mapM_some_get h i i (by simp [hlt])
    rw [this, hi]
  · cases h
theorem add_add (a : Addr) (i j : Nat) : (a.add i).add j = a.add (i + j) := by
  unfold Addr.add
  by_cases hi : i = 0
  · subst hi; simp
  · by_cases hj : j = 0
    · subst hj; simp [hi]
    · simp [hi, hj]; omega
theorem slice {e : TypeId} (ht : P.underlying t = some (.slice e)) (he : Opens enc P W e d ok) (hc : P.cellsOf e = d.sz) (q : Nat) : Opens enc P W t (Kd.slice q d) (fun l => l.length ≤ maxLen ∧ ∀ x ∈ l, ok x) := fun fuel cs x h => by
  rcases DataW.trod_slice ht h with ⟨rfl, _⟩ | ⟨a, len, cap, elems, rest, n, _, rfl, _, _, hl, hm, hlen, hel, _⟩
  · exact ⟨[], ⟨none, 0, rfl, Nat.le_refl _, rfl, Nat.zero_le _, fun h => absurd h (Nat.not_lt_zero _)⟩, Nat.zero_le _, fun x hx => by cases hx⟩
  · have each : ∀ i : Fin len, ∃ p : α, ok p ∧ ∃ c, c.length = d.sz ∧ d.K W p c ∧ ∀ j u, c[j]? = some u → W.cell? (a.add (i.1 * d.sz + j)) = some u := by
      intro i
      have h1 := hel i.1 i.2
      obtain ⟨y, hy⟩ : ∃ y, elems[i.1]? = some y := ⟨elems[i.1]'(by have := i.2; omega), List.getElem?_eq_getElem (by have := i.2; omega)⟩
      rw [hy, Option.bind_eq_some_iff] at h1
      obtain ⟨c, hcs, htr⟩ := h1
      rw [hc] at hcs
      obtain ⟨p, hK, hok⟩ := he _ _ _ htr
      obtain ⟨h2, h3⟩ := cells_get hcs
      exact ⟨p, hok, c, h2, hK, fun j u hj => by rw [← add_add]; exact h3 j u hj⟩
    let f : Fin len → α := fun i => (each i).choose
    have hf : ∀ i : Fin len, ok (f i) ∧ ∃ c, c.length = d.sz ∧ d.K W (f i) c ∧ ∀ j u, c[j]? = some u → W.cell? (a.add (i.1 * d.sz + j)) = some u := fun i => (each i).choose_spec
    have hm' : len ≤ maxLen := Nat.le_trans hl hm
    refine ⟨List.ofFn f, ⟨some a, cap, by simp, by simpa using hl, by simp, by simpa [maxLen] using hm', fun _ => ⟨a, rfl, fun j p hj => ?_⟩⟩, by simpa using hm', fun x hx => ?_⟩
    · have hlt : j < len := by have := (List.getElem?_eq_some_iff.mp hj).1; simpa using this
      have : p = f ⟨j, hlt⟩ := by rw [List.getElem?_eq_getElem (by simpa using hlt)] at hj; simpa using hj.symm
      subst this
      obtain ⟨_, c, h1, h2, h3⟩ := hf ⟨j, hlt⟩
      exact ⟨c, h1, h2, h3⟩
    · obtain ⟨i, hi, rfl⟩ := List.mem_iff_getElem.mp hx
      simp only [List.getElem_ofFn]
      exact (hf _).1
theorem one {f : Field} (off : Nat) (ho : f.offset = off) (he : Opens enc P W f.type d ok) (hc : P.cellsOf f.type = d.sz) : OpensFs enc P W off [f] d ok := fun n cs xs h hx hl => by
  have h0 := h 0 f rfl
  have hz : xs.length = 1 := hx
  obtain ⟨y, rfl⟩ := List.length_eq_one_iff.mp hz
  rw [ho, hc, List.take_of_length_le (by simp; omega)] at h0
  exact he _ _ _ h0
theorem cons {f : Field} {fs : List Field} (off off2 : Nat) (ho : f.offset = off) (he : Opens enc P W f.type d ok) (hc : P.cellsOf f.type = d.sz) (h2 : off + d.sz = off2) (hr : OpensFs enc P W off2 fs d2 ok2) :
    OpensFs enc P W off (f :: fs) (Kd.pair d d2) (fun x => ok x.1 ∧ ok2 x.2) := fun n cs xs h hx hl => by
  cases xs with
  | nil => simp at hx
  | cons y ys =>
    have h0 := h 0 f rfl
    rw [ho, hc] at h0
    obtain ⟨p, hp, hok⟩ := he _ _ _ h0
    have hl' : cs.length = off + (d.sz + d2.sz) := hl
    obtain ⟨q, hq, hok2⟩ := hr n cs ys (fun i g hi => h (i + 1) g hi) (by simpa using hx) (by omega)
    refine ⟨(p, q), ⟨_, _, ?_, hp, hq⟩, hok, hok2⟩
    rw [← h2, ← List.drop_drop, List.take_append_drop]
theorem struct {fs : Array Field} (ht : P.underlying t = some (.struct fs)) (hc : P.cellsOf t = d.sz) (h : OpensFs enc P W 0 fs.toList d ok) : Opens enc P W t d ok := fun fuel cs x hx => by
  obtain ⟨xs, n, _, _, hl, hxs, hf⟩ := DataW.trod_struct ht hx
  have := h n cs xs (fun i f hi => hf i f (by simpa using hi)) (by simpa using hxs) (by omega)
  simpa using this
theorem iso {f : β → α} (g : α → β) (hg : ∀ x, f (g x) = x) (h : Opens enc P W t d ok) : Opens enc P W t (Kd.iso d f) (fun y => ok (f y)) := fun fuel cs x hx => by
  obtain ⟨p, hp, hok⟩ := h _ _ _ hx
  exact ⟨g p, by show d.K W (f (g p)) cs; rw [hg]; exact hp, by show ok (f (g p)); rw [hg]; exact hok⟩
end
theorem trod_struct_val {H : Type} {enc : TypeId × Value → H} {P : Program} {W : World} {r : Reach} {b0 : Nat} {t : TypeId} {v : Value} {fs : Array Field} {α : Type} {d : Kd α} {ok : α → Prop} {dd : DataW H} {ps : List MemPlace} (ht : P.underlying t = some (.struct fs)) (hval : Value.okWide P W r b0 t v) (hd : DataW.Trod enc P W 0 (fun _ => true) true t v dd ps) (h : Opens enc P W t d ok) :
    ∃ cs a, v = .agg cs ∧ d.K W a cs.toList ∧ ok a := by
  obtain ⟨cs, rfl, _⟩ := okWide_struct ht hval
  obtain ⟨fuel, hf⟩ := hd
  obtain ⟨a, hK, hok⟩ := h _ _ _ hf
  exact ⟨cs, a, rfl, by simpa [Value.cells] using hK, hok⟩
end Go.Proofs.Ythfefanapneocaa.Opens
namespace Go.Proofs.Ythfefanapneocaa.Q
open Go.RowKit Go.Proofs.YthfefanapneocaaW.PrintWords Go.Proofs.YthfefanapneocaaW.PrintLast Go.Proofs.YthfefanapneocaaW.PrintMore
abbrev Team := S139
abbrev Game := S95
theorem wrap_id (x : Int) (h0 : -9223372036854775808 ≤ x) (h1 : x ≤ 9223372036854775807) : wrap64 x = x := by unfold wrap64; omega
theorem Ev.down {β : Type} (n : Nat) (F : Nat → Nat → Option β) (V : Nat → β) (hend : Ev (F n) (V n)) (hstep : ∀ i, i < n → Ev (F (i + 1)) (V (i + 1)) → Ev (F i) (V i)) : Ev (F 0) (V 0) := by
  have key : ∀ d i, i + d = n → Ev (F i) (V i) := by
    intro d
    induction d with
    | zero => intro i hi; obtain rfl : i = n := by omega
              exact hend
    | succ d ih => intro i hi; exact hstep i (by omega) (ih (i + 1) (by omega))
  exact key n 0 (by omega)
theorem Ev.eq {β : Type} {g : Nat → Option β} {r q : β} (h : Ev g r) (e : r = q) : Ev g q := e ▸ h
theorem Ev.loop {β : Type} {g : Nat → Option β} {r : β} (n : Nat) (F : Nat → Nat → Option β) (V : Nat → β) (hg : ∀ k, g k = F 0 k) (hr : V 0 = r) (hend : Ev (F n) (V n)) (hstep : ∀ i, i < n → Ev (F (i + 1)) (V (i + 1)) → Ev (F i) (V i)) : Ev g r :=
  Ev.eq (Ev.congr hg (Ev.down n F V hend hstep)) hr
theorem Ev.from {β : Type} {g : Nat → Option β} {r : β} (K : Nat) (h : ∀ k, K < k → g k = some r) : Ev g r := ⟨K + 1, fun k hk => h k (by omega)⟩
theorem Ev.val {β : Type} {g : Nat → Option β} {r : β} (h : ∀ k, g k = some r) : Ev g r := ⟨0, fun k _ => h k⟩
theorem rd_eq (l : List Int) (i : Nat) (h : i < l.length) : rd l (i : Int) = l[i] := by
  unfold rd; simp [h]
theorem rdG_eq (l : List Game) (i : Nat) (h : i < l.length) : rd_T95 l (i : Int) = l[i] := by
  unfold rd_T95; simp [h]
theorem wrap_succ (i : Nat) (h : i < 4611686018427387904) : wrap64 ((i : Int) + 1) = ((i + 1 : Nat) : Int) := by unfold wrap64; omega
def indexI (l : List Int) (x : Int) : Int := idxI (fun y => decide (x = y)) l
theorem index_eq (l : List Int) (x : Int) (hl : l.length ≤ 2305843009213693952) (k : Nat) (hk : l.length < k) : slices_Index_int_int.f k l x = some (indexI l x) := by
  have key : ∀ (d i : Nat), l.length - i = d → i ≤ l.length → ∀ k, d < k → slices_Index_int_int.l0 k l x l.length i = some (if idxI (fun y => decide (x = y)) (l.drop i) < 0 then -1 else idxI (fun y => decide (x = y)) (l.drop i) + i) := by
    intro d
    induction d with
    | zero =>
      intro i hd hi k hk
      obtain ⟨k, rfl⟩ : ∃ m, k = m + 1 := ⟨k - 1, by omega⟩
      simp only [slices_Index_int_int.l0]
      rw [if_neg (by omega), List.drop_eq_nil_of_le (by omega)]
      rfl
    | succ d ih =>
      intro i hd hi k hk
      obtain ⟨k, rfl⟩ : ∃ m, k = m + 1 := ⟨k - 1, by omega⟩
      have hlt : i < l.length := by omega
      have := ih (i + 1) (by omega) (by omega) k (by omega)
      simp only [slices_Index_int_int.l0]
      rw [if_pos (by omega), if_pos (by omega), if_pos (by omega), rd_eq l i hlt, wrap_succ i (by omega), this, List.drop_eq_getElem_cons hlt]
      simp only [idxI]
      grind
  unfold slices_Index_int_int.f indexI
  have := key l.length 0 (by omega) (by omega) k hk
  rw [List.drop_zero] at this
  have h2 := idxI_any (fun y => decide (x = y)) l
  refine Eq.trans this ?_
  congr 1
  by_cases h : idxI (fun y => decide (x = y)) l < 0
  · rw [if_pos h]
    have : ∀ l : List Int, idxI (fun y => decide (x = y)) l = -1 ∨ 0 ≤ idxI (fun y => decide (x = y)) l := by
      intro l
      induction l with
      | nil => exact .inl rfl
      | cons y l ih => simp only [idxI]; grind
    rcases this l with h3 | h3
    · exact h3.symm
    · omega
  · rw [if_neg h]; simp
def hasI (l : List Int) (x : Int) : Bool := l.any fun y => decide (x = y)
theorem contains_eq (l : List Int) (x : Int) (hl : l.length ≤ 2305843009213693952) (k : Nat) (hk : l.length < k) : slices_Contains_int_int.f k l x = some (hasI l x) := by
  unfold slices_Contains_int_int.f hasI
  rw [index_eq l x hl k hk, ← idxI_any]
  rfl
theorem isKey_eq (x : Int) : impl_isKey.f x = some (withinB x 1 8) := by unfold impl_isKey.f; rw [within_eq]; rfl
def ladderFrom : List Int → List Int → Bool
  | _, [] => true
  | pre, k :: l => withinB k 1 8 && !hasI pre k && ladderFrom (pre ++ [k]) l
def rulesOkB (win draw loss : Int) (ladder : List Int) : Bool := ladderFrom [] ladder && decide (0 ≤ loss) && decide (loss ≤ draw) && decide (draw ≤ win) && decide (win ≤ 10) && withinB ladder.length 1 8
theorem rulesOk_eq (win draw loss : Int) (l : List Int) (again : Bool) (hl : l.length ≤ 2305843009213693952) (k : Nat) (hk : 2 * l.length + 2 < k) : impl_RulesOk.f k win draw loss l again = some (rulesOkB win draw loss l) := by
  have key : ∀ (d i : Nat), l.length - i = d → i ≤ l.length → ∀ k, l.length + d + 1 < k → impl_RulesOk.l0 k l l.length i win draw loss l again = some (ladderFrom (l.take i) (l.drop i) && decide (0 ≤ loss) && decide (loss ≤ draw) && decide (draw ≤ win) && decide (win ≤ 10) && withinB l.length 1 8) := by
    intro d
    induction d with
    | zero =>
      intro i hd hi k hk
      obtain ⟨k, rfl⟩ : ∃ m, k = m + 1 := ⟨k - 1, by omega⟩
      simp only [impl_RulesOk.l0]
      rw [if_neg (by omega), List.drop_eq_nil_of_le (by omega), ladderFrom, within_eq]
      simp only [Option.bind_some]
      grind
    | succ d ih =>
      intro i hd hi k hk
      obtain ⟨k, rfl⟩ : ∃ m, k = m + 1 := ⟨k - 1, by omega⟩
      have hlt : i < l.length := by omega
      have := ih (i + 1) (by omega) (by omega) k (by omega)
      simp only [impl_RulesOk.l0]
      rw [if_pos (by omega), if_pos (by omega), if_pos (by omega), rd_eq l i hlt, wrap_succ i (by omega), this, List.drop_eq_getElem_cons hlt, isKey_eq, Int.toNat_natCast, contains_eq _ _ (by rw [List.length_take]; omega) k (by rw [List.length_take]; omega)]
      simp only [Option.bind_some, ladderFrom]
      rw [if_pos (show (i : Int) ≤ l.length by omega), List.take_succ_eq_append_getElem hlt]
      cases withinB l[i] 1 8 <;> cases hasI (l.take i) l[i] <;> simp
  unfold impl_RulesOk.f rulesOkB
  have := key l.length 0 (by omega) (by omega) k (by omega)
  simpa using this
def gameOkB (n : Int) (g : Game) : Bool := withinB n 2 8 && !decide (g.f0 = g.f1) && withinB g.f0 0 (n - 1) && withinB g.f1 0 (n - 1) && withinB g.f4 0 4 && withinB g.f2 0 (if g.f4 = 1 then 99 else 0) && withinB g.f3 0 (if g.f4 = 1 then 99 else 0)
theorem gameOk_eq (n : Int) (g : Game) (k : Nat) (hk : 0 < k) : impl_GameOk.f k n g.f0 g.f1 g.f2 g.f3 g.f4 = some (gameOkB n g) := by
  obtain ⟨k, rfl⟩ : ∃ m, k = m + 1 := ⟨k - 1, by omega⟩
  have hw : withinB n 2 8 = true → wrap64 (n - 1) = n - 1 := by
    intro h
    simp [withinB] at h
    unfold wrap64; omega
  have key : ∀ most : Int, impl_GameOk.j0 (k + 1) n most g.f0 g.f1 g.f2 g.f3 g.f4 = some (withinB n 2 8 && !decide (g.f0 = g.f1) && withinB g.f0 0 (n - 1) && withinB g.f1 0 (n - 1) && withinB g.f4 0 4 && withinB g.f2 0 most && withinB g.f3 0 most) := by
    intro most
    simp only [impl_GameOk.j0, within_eq, Option.bind_some]
    cases h : withinB n 2 8 with
    | false => simp
    | true =>
      rw [hw h]
      by_cases h1 : g.f0 = g.f1 <;> simp [h1] <;> grind
  unfold impl_GameOk.f gameOkB
  by_cases h : g.f4 = 1
  · rw [if_pos h, key, if_pos h]
  · rw [if_neg h, key, if_neg h]
def seasonFrom (n : Int) : List Game → List Game → Bool
  | _, [] => true
  | pre, g :: l => gameOkB n g && !pre.any (gameIs g.f0 g.f1) && seasonFrom n (pre ++ [g]) l
def seasonOkB (n : Int) (l : List Game) : Bool := seasonFrom n [] l && decide ((l.length : Int) ≤ 60)
theorem seasonOk_eq (n : Int) (l : List Game) (hl : l.length ≤ 2305843009213693952) (k : Nat) (hk : l.length + 2 < k) : impl_SeasonOk.f k n l = some (seasonOkB n l) := by
  have key : ∀ (d i : Nat), l.length - i = d → i ≤ l.length → ∀ k, d + 1 < k → impl_SeasonOk.l0 k n l l l.length i = some (seasonFrom n (l.take i) (l.drop i) && decide ((l.length : Int) ≤ 60)) := by
    intro d
    induction d with
    | zero =>
      intro i hd hi k hk
      obtain ⟨k, rfl⟩ : ∃ m, k = m + 1 := ⟨k - 1, by omega⟩
      simp only [impl_SeasonOk.l0]
      rw [if_neg (by omega), List.drop_eq_nil_of_le (by omega), seasonFrom]
      rfl
    | succ d ih =>
      intro i hd hi k hk
      obtain ⟨k, rfl⟩ : ∃ m, k = m + 1 := ⟨k - 1, by omega⟩
      have hlt : i < l.length := by omega
      have := ih (i + 1) (by omega) (by omega) k (by omega)
      simp only [impl_SeasonOk.l0]
      rw [if_pos (by omega), if_pos (by omega), if_pos (by omega), rdG_eq l i hlt, wrap_succ i (by omega), this, List.drop_eq_getElem_cons hlt, gameOk_eq _ _ k (by omega), Int.toNat_natCast]
      simp only [Option.bind_some, seasonFrom, impl_GameOf.f]
      rw [if_pos (show (i : Int) ≤ l.length by omega), List.take_succ_eq_append_getElem hlt, ← idxI_any]
      by_cases h2 : idxI (gameIs l[i].f0 l[i].f1) (l.take i) ≥ 0
      · rw [if_pos h2, decide_eq_true (show 0 ≤ idxI (gameIs l[i].f0 l[i].f1) (l.take i) from h2)]
        cases gameOkB n l[i] <;> simp
      · rw [if_neg h2, decide_eq_false (show ¬ 0 ≤ idxI (gameIs l[i].f0 l[i].f1) (l.take i) from h2)]
        cases gameOkB n l[i] <;> simp
  unfold impl_SeasonOk.f seasonOkB
  have := key l.length 0 (by omega) (by omega) k (by omega)
  simpa using this
def penaltiesB (l : List Int) (n : Int) : Bool := decide ((l.length : Int) = n) && !l.any (fun x => !withinB x 0 1000)
def bookOkB (field : List Team) (win draw loss : Int) (ladder : List Int) (games : List Game) (fair taken : List Int) : Bool :=
  fieldOkB field && rulesOkB win draw loss ladder && seasonOkB field.length games && penaltiesB fair field.length && penaltiesB taken field.length
def Sized (field : List Team) (ladder : List Int) (games : List Game) : Prop :=
  (∀ t, t ∈ field → t.f0.size ≤ 4611686018427387904) ∧ ladder.length ≤ 1099511627776 ∧ games.length ≤ 1099511627776
theorem fieldOk_eq (field : List Team) (h : ∀ t, t ∈ field → t.f0.size ≤ 4611686018427387904) : impl_FieldOk.f field = some (fieldOkB field) := by
  unfold impl_FieldOk.f
  rw [if_pos]
  rw [List.all_eq_true]
  intro t ht
  exact decide_eq_true (h t ht)
theorem bookOk_eq (field : List Team) (win draw loss : Int) (ladder : List Int) (again : Bool) (games : List Game) (fair taken : List Int) (hs : Sized field ladder games) (k : Nat) (hk : 2 * ladder.length + games.length + 2 < k) :
    impl_BookOk.f k field win draw loss ladder again games fair taken = some (bookOkB field win draw loss ladder games fair taken) := by
  obtain ⟨h1, h2, h3⟩ := hs
  unfold impl_BookOk.f bookOkB
  rw [fieldOk_eq field h1, rulesOk_eq _ _ _ _ _ (by omega) k (by omega), seasonOk_eq _ _ (by omega) k (by omega)]
  simp only [Option.bind_some, impl_arePenalties.f, penaltiesB]
  cases fieldOkB field <;> cases rulesOkB win draw loss ladder <;> cases seasonOkB field.length games <;> simp
  grind
def mk (l : List UInt8) : ByteArray := ⟨l.toArray⟩
theorem mk_append (a b : List UInt8) : mk a ++ mk b = mk (a ++ b) := by
  apply ByteArray.ext
  simp [mk]
theorem mk_size (l : List UInt8) : (mk l).size = l.length := by simp [mk, ByteArray.size]
theorem strOfNums_mk (l : List Int) : strOfNums l = mk (l.map fun n => UInt8.ofNat n.toNat) := rfl
theorem set_next {α β : Type} (f : α → β) (z : β) (l : List α) (i : Nat) (h : i < l.length) (y : β) (hy : y = f l[i]) : ((l.take i).map f ++ List.replicate (l.length - i) z).set i y = (l.take (i + 1)).map f ++ List.replicate (l.length - (i + 1)) z := by
  rw [List.set_append, if_neg (by rw [List.length_map, List.length_take]; omega), List.take_succ_eq_append_getElem h, show l.length - i = (l.length - (i + 1)) + 1 by omega, List.replicate_succ, List.length_map, List.length_take, Nat.min_eq_left (by omega), Nat.sub_self, List.set_cons_zero, List.map_append, List.append_assoc, hy]
  rfl
theorem markText_l0 (m : Nat) : ∀ (x : Int) (s : List UInt8), 0 ≤ x → x.toNat < 10 ^ m → x ≤ 9223372036854775807 → s.length + m ≤ 1000 → ∃ t, ∀ k, laws_markText.l0 (k + m + 1) x (mk s) = some t := by
  induction m with
  | zero =>
    intro x s h0 h1 h2 hs
    have hx : x = 0 := by simp at h1; omega
    subst hx
    exact ⟨_, fun k => by rw [show k + 0 + 1 = k + 1 by omega, laws_markText.l0, if_neg (by decide), mk_size, if_pos (by omega)]⟩
  | succ m ih =>
    intro x s h0 h1 h2 hs
    by_cases hx : x > 0
    · have h10 : Int.tdiv x 10 = x / 10 := Int.tdiv_eq_ediv_of_nonneg h0
      have hlt : (x / 10).toNat < 10 ^ m := by
        have : x.toNat < 10 * 10 ^ m := by rw [Nat.pow_succ] at h1; omega
        omega
      obtain ⟨t, ht⟩ := ih (x / 10) ((([(wrap64 (48 + (Int.tmod x 10))) % 256] : List Int).map fun n => UInt8.ofNat n.toNat) ++ s) (by omega) hlt (by omega) (by simp; omega)
      refine ⟨t, fun k => ?_⟩
      rw [show k + (m + 1) + 1 = (k + m + 1) + 1 by omega, laws_markText.l0, if_pos hx, Option.bind_some, strOfNums_mk, mk_size, mk_size, if_pos (by simp; omega), mk_append, h10, wrap_id (x / 10) (by omega) (by omega)]
      exact ht k
    · have hx0 : x = 0 := by omega
      subst hx0
      exact ⟨_, fun k => by rw [show k + (m + 1) + 1 = (k + m + 1) + 1 by omega, laws_markText.l0, if_neg (by decide), mk_size, if_pos (by omega)]⟩
theorem markText_ex (x : Int) : ∃ t, 0 < x → x ≤ 1000000000 → Ev (fun k => laws_markText.f k x) t := by
  by_cases h : 0 < x ∧ x ≤ 1000000000
  · obtain ⟨t, ht⟩ := markText_l0 10 x [] (by omega) (by omega) (by omega) (by simp)
    refine ⟨t, fun _ _ => ⟨11, fun k hk => ?_⟩⟩
    have := ht (k - 11)
    rw [show k - 11 + 10 + 1 = k by omega] at this
    show laws_markText.f k x = some t
    unfold laws_markText.f
    rw [if_neg (by omega)]
    exact this
  · exact ⟨mk [], fun h1 h2 => absurd ⟨h1, h2⟩ h⟩
noncomputable def markT (x : Int) : ByteArray := (markText_ex x).choose
theorem markT_ev {x : Int} (h0 : 0 < x) (h1 : x ≤ 1000000000) : Ev (fun k => laws_markText.f k x) (markT x) := (markText_ex x).choose_spec h0 h1
theorem toInt_ev (l : List Int) (hl : l.length ≤ 1048576) : Ev (fun k => laws_toIntS.f k l) l := by
  have h : ∀ i, i ≤ l.length → Ev (fun k => laws_toIntS.l0 k l ((l.take i).map id ++ List.replicate (l.length - i) 0) (i : Int)) l := by
    intro i hi
    obtain ⟨d, hd⟩ : ∃ d, i + d = l.length := ⟨l.length - i, by omega⟩
    induction d generalizing i with
    | zero =>
      obtain rfl : i = l.length := by omega
      exact Ev.step (f := fun _ => some l) (fun k => by rw [laws_toIntS.l0, if_neg (by omega), List.take_length, Nat.sub_self]; simp) (Ev.now _)
    | succ d ih =>
      have hlt : i < l.length := by omega
      refine Ev.step (fun k => ?_) (ih (i + 1) (by omega) (by omega))
      rw [laws_toIntS.l0, if_pos (by omega), if_pos (by omega), rd_eq l i hlt, if_pos (by simp; omega), wrap_succ i (by omega), Int.toNat_natCast, set_next id 0 l i hlt l[i] rfl]
  refine Ev.congr (fun k => ?_) (h 0 (by omega))
  unfold laws_toIntS.f
  rw [if_pos (by omega), if_pos (by omega)]
  rfl
theorem eqInt_ev (l : List Int) (hl : l.length ≤ 1048576) : Ev (fun k => laws_eqIntS.f k l l) true := by
  refine Ev.loop l.length (fun i k => laws_eqIntS.l0 k l l (i : Int)) (fun _ => true) (fun k => by unfold laws_eqIntS.f; rw [if_pos rfl]; rfl) rfl ?_ ?_
  · exact Ev.step (f := fun _ => some true) (fun k => by rw [laws_eqIntS.l0, if_neg (by omega)]) (Ev.now _)
  · intro i hi h
    exact Ev.step (fun k => by rw [laws_eqIntS.l0, if_pos (by omega), if_pos (by omega), if_pos (by omega), if_pos rfl, wrap_succ i (by omega)]) h
def marksI (n : Nat) (a : Int) : List Int := (List.range n).map fun (j : Nat) => a + j
theorem marksI_len (n : Nat) (a : Int) : (marksI n a).length = n := by simp [marksI]
theorem marksI_succ (n : Nat) (a : Int) : marksI (n + 1) a = marksI n a ++ [a + n] := by simp [marksI, List.range_succ]
theorem marks_set {α : Type} (f : Nat → List α) (x : Nat → α) (hf : ∀ i, (f i).length = i) (hs : ∀ i, f (i + 1) = f i ++ [x i]) (l : List α) (i : Nat) (h : i < l.length) : (f i ++ l.drop i).set i (x i) = f (i + 1) ++ l.drop (i + 1) := by
  rw [List.set_append, if_neg (by rw [hf]; omega), hf, Nat.sub_self, List.drop_eq_getElem_cons h, List.set_cons_zero, hs, List.append_assoc]
  rfl
theorem marks_len {α : Type} (f : Nat → List α) (hf : ∀ i, (f i).length = i) (l : List α) (i : Nat) (h : i ≤ l.length) : (f i ++ l.drop i).length = l.length := by
  rw [List.length_append, hf, List.length_drop]; omega
theorem add_zero_cast (a : Int) : a + ((0 : Nat) : Int) = a := by omega
theorem markInt_ev (l : List Int) (a : Int) (h0 : 0 ≤ a) (hl : a + l.length ≤ 1000000000) : Ev (fun k => laws_markIntS.f k l a) (a + l.length, marksI l.length a) := by
  have hf := fun i => marksI_len i a
  refine Ev.loop l.length (fun i k => laws_markIntS.l0 k (marksI i a ++ l.drop i) (a + i) (i : Int)) (fun _ => (a + l.length, marksI l.length a)) (fun k => by rw [add_zero_cast]; rfl) rfl ?_ ?_
  · exact Ev.step (f := fun _ => some (a + l.length, marksI l.length a)) (fun k => by rw [laws_markIntS.l0, if_neg (by rw [marks_len _ hf l _ (Nat.le_refl _)]; omega), List.drop_length, List.append_nil]) (Ev.now _)
  · intro i hi h
    refine Ev.step (fun k => ?_) h
    rw [laws_markIntS.l0, if_pos (by rw [marks_len _ hf l i (by omega)]; omega), if_pos (by omega), Int.toNat_natCast, marks_set (fun i => marksI i a) (fun i => a + (i : Int)) hf (fun i => marksI_succ i a) l i hi, wrap_succ i (by omega), wrap_id _ (by omega) (by omega)]
    congr 1
    omega
theorem marksI_get (n : Nat) (a : Int) (i : Nat) (h : i < n) : (marksI n a)[i]'(by rw [marksI_len]; exact h) = a + i := by simp [marksI]
theorem heldInt_ev (n : Nat) (a : Int) (h0 : 0 ≤ a) (hl : a + n ≤ 1000000000) : Ev (fun k => laws_heldIntS.f k (marksI n a) a) (a + n) := by
  refine Ev.loop n (fun i k => laws_heldIntS.l0 k (marksI n a) (a + i) (i : Int)) (fun _ => a + n) (fun k => by rw [add_zero_cast]; rfl) rfl ?_ ?_
  · exact Ev.step (f := fun _ => some (a + n)) (fun k => by rw [laws_heldIntS.l0, if_neg (by rw [marksI_len]; omega)]) (Ev.now _)
  · intro i hi h
    refine Ev.step (fun k => ?_) h
    rw [laws_heldIntS.l0, if_pos (by rw [marksI_len]; omega), if_pos (by omega), rd_eq _ i (by rw [marksI_len]; omega), marksI_get n a i hi, if_pos rfl, wrap_succ i (by omega), wrap_id _ (by omega) (by omega)]
    congr 1
    omega
theorem szInt_eq (r : List Int) (x : Int) (h0 : 0 ≤ x) (h1 : x ≤ 1048576) (hr : r.length ≤ 9223372036854775807) : laws_szIntS.f r x = some (if x - r.length < 0 then -1 else x - r.length) := by
  unfold laws_szIntS.f
  rw [wrap_id _ (by omega) (by omega)]
  split <;> rfl
abbrev TeamA := S133
abbrev GameA := S147
def convT (x : TeamA) : Team := ⟨x.f0, x.f1, x.f2⟩
def convG (x : GameA) : Game := ⟨x.f0, x.f1, x.f2, x.f3, x.f4⟩
theorem rdTA_eq (l : List TeamA) (i : Nat) (h : i < l.length) : rd_T133 l (i : Int) = l[i] := by
  unfold rd_T133; simp [h]
theorem rdGA_eq (l : List GameA) (i : Nat) (h : i < l.length) : rd_T147 l (i : Int) = l[i] := by
  unfold rd_T147; simp [h]
theorem rdT_eq (l : List Team) (i : Nat) (h : i < l.length) : rd_T139 l (i : Int) = l[i] := by
  unfold rd_T139; simp [h]
theorem rdT_set (l : List Team) (i : Nat) (y : Team) (h : i < l.length) : rd_T139 (l.set i y) (i : Int) = y := by
  rw [rdT_eq _ i (by simpa using h)]; simp
theorem rdG_set (l : List Game) (i : Nat) (y : Game) (h : i < l.length) : rd_T95 (l.set i y) (i : Int) = y := by
  rw [rdG_eq _ i (by simpa using h)]; simp
theorem toTeam_ev (l : List TeamA) (hl : l.length ≤ 1048576) : Ev (fun k => laws_toTeamS.f k l) (l.map convT) := by
  refine Ev.loop l.length (fun i k => laws_toTeamS.l0 k l ((l.take i).map convT ++ List.replicate (l.length - i) z139) (i : Int)) (fun _ => l.map convT) (fun k => by unfold laws_toTeamS.f; rw [if_pos (by omega), if_pos (by omega)]; rfl) rfl ?_ ?_
  · exact Ev.step (f := fun _ => some (l.map convT)) (fun k => by rw [laws_toTeamS.l0, if_neg (by omega), List.take_length, Nat.sub_self]; simp) (Ev.now _)
  · intro i hi h
    refine Ev.step (fun k => ?_) h
    rw [laws_toTeamS.l0, if_pos (by omega), if_pos (by omega), rdTA_eq l i hi, laws_toTeam.f, Option.bind_some, if_pos (by simp; omega), wrap_succ i (by omega), Int.toNat_natCast, set_next convT z139 l i hi ⟨l[i].f0, l[i].f1, l[i].f2⟩ rfl]
theorem toGame_ev (l : List GameA) (hl : l.length ≤ 1048576) : Ev (fun k => laws_toGameS.f k l) (l.map convG) := by
  refine Ev.loop l.length (fun i k => laws_toGameS.l0 k l ((l.take i).map convG ++ List.replicate (l.length - i) z95) (i : Int)) (fun _ => l.map convG) (fun k => by unfold laws_toGameS.f; rw [if_pos (by omega), if_pos (by omega)]; rfl) rfl ?_ ?_
  · exact Ev.step (f := fun _ => some (l.map convG)) (fun k => by rw [laws_toGameS.l0, if_neg (by omega), List.take_length, Nat.sub_self]; simp) (Ev.now _)
  · intro i hi h
    refine Ev.step (fun k => ?_) h
    rw [laws_toGameS.l0, if_pos (by omega), if_pos (by omega), rdGA_eq l i hi, laws_toGame.f, Option.bind_some, if_pos (by simp; omega), wrap_succ i (by omega), Int.toNat_natCast, set_next convG z95 l i hi ⟨l[i].f0, l[i].f1, l[i].f2, l[i].f3, l[i].f4⟩ rfl]
theorem eqTeam_ev (l : List Team) (hl : l.length ≤ 1048576) : Ev (fun k => laws_eqTeamS.f k l l) true := by
  refine Ev.loop l.length (fun i k => laws_eqTeamS.l0 k l l (i : Int)) (fun _ => true) (fun k => by unfold laws_eqTeamS.f; rw [if_pos rfl]; rfl) rfl ?_ ?_
  · exact Ev.step (f := fun _ => some true) (fun k => by rw [laws_eqTeamS.l0, if_neg (by omega)]) (Ev.now _)
  · intro i hi h
    exact Ev.step (fun k => by rw [laws_eqTeamS.l0, if_pos (by omega), if_pos (by omega), if_pos (by omega), laws_eqTeam.f, if_pos rfl, if_pos rfl, if_pos rfl, Option.bind_some, if_pos rfl, wrap_succ i (by omega)]) h
theorem eqGame_ev (l : List Game) (hl : l.length ≤ 1048576) : Ev (fun k => laws_eqGameS.f k l l) true := by
  refine Ev.loop l.length (fun i k => laws_eqGameS.l0 k l l (i : Int)) (fun _ => true) (fun k => by unfold laws_eqGameS.f; rw [if_pos rfl]; rfl) rfl ?_ ?_
  · exact Ev.step (f := fun _ => some true) (fun k => by rw [laws_eqGameS.l0, if_neg (by omega)]) (Ev.now _)
  · intro i hi h
    exact Ev.step (fun k => by rw [laws_eqGameS.l0, if_pos (by omega), if_pos (by omega), if_pos (by omega), laws_eqGame.f, if_pos rfl, if_pos rfl, if_pos rfl, if_pos rfl, if_pos rfl, Option.bind_some, if_pos rfl, wrap_succ i (by omega)]) h
noncomputable def markTm (a : Int) : Team := ⟨markT a, a + 1, a + 2⟩
noncomputable def marksTm (n : Nat) (a : Int) : List Team := (List.range n).map fun (j : Nat) => markTm (a + 3 * j)
theorem marksTm_len (n : Nat) (a : Int) : (marksTm n a).length = n := by simp [marksTm]
theorem marksTm_succ (n : Nat) (a : Int) : marksTm (n + 1) a = marksTm n a ++ [markTm (a + 3 * n)] := by simp [marksTm, List.range_succ]
def markGm (a : Int) : Game := ⟨a, a + 1, a + 2, a + 3, a + 4⟩
def marksGm (n : Nat) (a : Int) : List Game := (List.range n).map fun (j : Nat) => markGm (a + 5 * j)
theorem marksGm_len (n : Nat) (a : Int) : (marksGm n a).length = n := by simp [marksGm]
theorem marksGm_succ (n : Nat) (a : Int) : marksGm (n + 1) a = marksGm n a ++ [markGm (a + 5 * n)] := by simp [marksGm, List.range_succ]
theorem mul_zero_cast (a c : Int) : a + c * ((0 : Nat) : Int) = a := by simp
theorem markTeam_ev (l : List Team) (a : Int) (h0 : 0 < a) (hl : a + 3 * l.length ≤ 1000000000) : Ev (fun k => laws_markTeamS.f k l a) (a + 3 * l.length, marksTm l.length a) := by
  have hf := fun i => marksTm_len i a
  refine Ev.loop l.length (fun i k => laws_markTeamS.l0 k (marksTm i a ++ l.drop i) (a + 3 * i) (i : Int)) (fun _ => (a + 3 * l.length, marksTm l.length a)) (fun k => by rw [mul_zero_cast]; rfl) rfl ?_ ?_
  · exact Ev.step (f := fun _ => some (a + 3 * l.length, marksTm l.length a)) (fun k => by rw [laws_markTeamS.l0, if_neg (by rw [marks_len _ hf l _ (Nat.le_refl _)]; omega), List.drop_length, List.append_nil]) (Ev.now _)
  · intro i hi h
    have hlen := marks_len _ hf l i (by omega)
    have hs := marks_set (fun i => marksTm i a) (fun i => markTm (a + 3 * (i : Int))) hf (fun i => marksTm_succ i a) l i hi
    have w1 : wrap64 (a + 3 * (i : Int) + 1) = a + 3 * i + 1 := wrap_id _ (by omega) (by omega)
    have w2 : wrap64 (a + 3 * (i : Int) + 1 + 1) = a + 3 * i + 2 := by rw [wrap_id _ (by omega) (by omega)]; omega
    have w3 : wrap64 (a + 3 * (i : Int) + 2 + 1) = a + 3 * ((i + 1 : Nat) : Int) := by rw [wrap_id _ (by omega) (by omega)]; omega
    refine Ev.step (f := fun k => (laws_markText.f k (a + 3 * (i : Int))).bind fun t => laws_markTeamS.l0 k ((marksTm i a ++ l.drop i).set i ⟨t, a + 3 * i + 1, a + 3 * i + 2⟩) (a + 3 * ((i + 1 : Nat) : Int)) ((i + 1 : Nat) : Int)) (fun k => ?_) (Ev.bind (markT_ev (by omega) (by omega)) ?_)
    · have hlt : i < (marksTm i a ++ l.drop i).length := by rw [hlen]; exact hi
      have h00 : (0 : Int) ≤ (i : Int) := by omega
      rw [laws_markTeamS.l0, if_pos (by rw [hlen]; omega)]
      congr 1
      funext t
      generalize marksTm i a ++ l.drop i = L at hlt
      simp only [if_pos h00, Option.bind_some, Int.toNat_natCast, w1, w2, w3, wrap_succ i (show i < 4611686018427387904 by omega), rdT_set _ _ _ hlt, List.set_set]
    · exact (show (marksTm i a ++ l.drop i).set i (markTm (a + 3 * (i : Int))) = _ from hs) ▸ h
theorem markGame_ev (l : List Game) (a : Int) (h0 : 0 < a) (hl : a + 5 * l.length ≤ 1000000000) : Ev (fun k => laws_markGameS.f k l a) (a + 5 * l.length, marksGm l.length a) := by
  have hf := fun i => marksGm_len i a
  refine Ev.loop l.length (fun i k => laws_markGameS.l0 k (marksGm i a ++ l.drop i) (a + 5 * i) (i : Int)) (fun _ => (a + 5 * l.length, marksGm l.length a)) (fun k => by rw [mul_zero_cast]; rfl) rfl ?_ ?_
  · exact Ev.step (f := fun _ => some (a + 5 * l.length, marksGm l.length a)) (fun k => by rw [laws_markGameS.l0, if_neg (by rw [marks_len _ hf l _ (Nat.le_refl _)]; omega), List.drop_length, List.append_nil]) (Ev.now _)
  · intro i hi h
    have hlen := marks_len _ hf l i (by omega)
    have hs := marks_set (fun i => marksGm i a) (fun i => markGm (a + 5 * (i : Int))) hf (fun i => marksGm_succ i a) l i hi
    have w1 : wrap64 (a + 5 * (i : Int) + 1) = a + 5 * i + 1 := wrap_id _ (by omega) (by omega)
    have w2 : wrap64 (a + 5 * (i : Int) + 1 + 1) = a + 5 * i + 2 := by rw [wrap_id _ (by omega) (by omega)]; omega
    have w3 : wrap64 (a + 5 * (i : Int) + 2 + 1) = a + 5 * i + 3 := by rw [wrap_id _ (by omega) (by omega)]; omega
    have w4 : wrap64 (a + 5 * (i : Int) + 3 + 1) = a + 5 * i + 4 := by rw [wrap_id _ (by omega) (by omega)]; omega
    have w5 : wrap64 (a + 5 * (i : Int) + 4 + 1) = a + 5 * ((i + 1 : Nat) : Int) := by rw [wrap_id _ (by omega) (by omega)]; omega
    refine Ev.step (f := fun k => laws_markGameS.l0 k ((marksGm i a ++ l.drop i).set i ⟨a + 5 * i, a + 5 * i + 1, a + 5 * i + 2, a + 5 * i + 3, a + 5 * i + 4⟩) (a + 5 * ((i + 1 : Nat) : Int)) ((i + 1 : Nat) : Int)) (fun k => ?_) ?_
    · have hlt : i < (marksGm i a ++ l.drop i).length := by rw [hlen]; exact hi
      have h00 : (0 : Int) ≤ (i : Int) := by omega
      rw [laws_markGameS.l0, if_pos (by rw [hlen]; omega)]
      generalize marksGm i a ++ l.drop i = L at hlt
      simp only [if_pos h00, Option.bind_some, Int.toNat_natCast, w1, w2, w3, w4, w5, wrap_succ i (show i < 4611686018427387904 by omega), rdG_set _ _ _ hlt, List.set_set]
    · exact (show (marksGm i a ++ l.drop i).set i (markGm (a + 5 * (i : Int))) = _ from hs) ▸ h
theorem marksTm_get (n : Nat) (a : Int) (i : Nat) (h : i < n) : (marksTm n a)[i]'(by rw [marksTm_len]; exact h) = markTm (a + 3 * i) := by simp [marksTm]
theorem marksGm_get (n : Nat) (a : Int) (i : Nat) (h : i < n) : (marksGm n a)[i]'(by rw [marksGm_len]; exact h) = markGm (a + 5 * i) := by simp [marksGm]
theorem heldTeam_ev (n : Nat) (a : Int) (h0 : 0 < a) (hl : a + 3 * n ≤ 1000000000) : Ev (fun k => laws_heldTeamS.f k (marksTm n a) a) (a + 3 * n) := by
  refine Ev.loop n (fun i k => laws_heldTeamS.l0 k (marksTm n a) (a + 3 * i) (i : Int)) (fun _ => a + 3 * n) (fun k => by rw [mul_zero_cast]; rfl) rfl ?_ ?_
  · exact Ev.step (f := fun _ => some (a + 3 * n)) (fun k => by rw [laws_heldTeamS.l0, if_neg (by rw [marksTm_len]; omega)]) (Ev.now _)
  · intro i hi h
    have w1 : wrap64 (a + 3 * (i : Int) + 1) = a + 3 * i + 1 := wrap_id _ (by omega) (by omega)
    have w2 : wrap64 (a + 3 * (i : Int) + 1 + 1) = a + 3 * i + 2 := by rw [wrap_id _ (by omega) (by omega)]; omega
    have w3 : wrap64 (a + 3 * (i : Int) + 2 + 1) = a + 3 * ((i + 1 : Nat) : Int) := by rw [wrap_id _ (by omega) (by omega)]; omega
    refine Ev.step (f := fun k => (laws_markText.f k (a + 3 * (i : Int))).bind fun t => if (markT (a + 3 * (i : Int))).toList = t.toList then laws_heldTeamS.l0 k (marksTm n a) (a + 3 * ((i + 1 : Nat) : Int)) ((i + 1 : Nat) : Int) else some (-1)) (fun k => ?_) (Ev.bind (markT_ev (by omega) (by omega)) (Ev.congr (fun k => by rw [if_pos rfl]) h))
    rw [laws_heldTeamS.l0, if_pos (by rw [marksTm_len]; omega), if_pos (by omega), rdT_eq _ i (by rw [marksTm_len]; omega), marksTm_get n a i hi]
    simp only [markTm, w1, w2, w3, if_true, wrap_succ i (show i < 4611686018427387904 by omega)]
theorem heldGame_ev (n : Nat) (a : Int) (h0 : 0 < a) (hl : a + 5 * n ≤ 1000000000) : Ev (fun k => laws_heldGameS.f k (marksGm n a) a) (a + 5 * n) := by
  refine Ev.loop n (fun i k => laws_heldGameS.l0 k (marksGm n a) (a + 5 * i) (i : Int)) (fun _ => a + 5 * n) (fun k => by rw [mul_zero_cast]; rfl) rfl ?_ ?_
  · exact Ev.step (f := fun _ => some (a + 5 * n)) (fun k => by rw [laws_heldGameS.l0, if_neg (by rw [marksGm_len]; omega)]) (Ev.now _)
  · intro i hi h
    have w1 : wrap64 (a + 5 * (i : Int) + 1) = a + 5 * i + 1 := wrap_id _ (by omega) (by omega)
    have w2 : wrap64 (a + 5 * (i : Int) + 1 + 1) = a + 5 * i + 2 := by rw [wrap_id _ (by omega) (by omega)]; omega
    have w3 : wrap64 (a + 5 * (i : Int) + 2 + 1) = a + 5 * i + 3 := by rw [wrap_id _ (by omega) (by omega)]; omega
    have w4 : wrap64 (a + 5 * (i : Int) + 3 + 1) = a + 5 * i + 4 := by rw [wrap_id _ (by omega) (by omega)]; omega
    have w5 : wrap64 (a + 5 * (i : Int) + 4 + 1) = a + 5 * ((i + 1 : Nat) : Int) := by rw [wrap_id _ (by omega) (by omega)]; omega
    refine Ev.step (fun k => ?_) h
    rw [laws_heldGameS.l0, if_pos (by rw [marksGm_len]; omega), if_pos (by omega), rdG_eq _ i (by rw [marksGm_len]; omega), marksGm_get n a i hi]
    simp only [markGm, w1, w2, w3, w4, w5, if_true, wrap_succ i (show i < 4611686018427387904 by omega)]
theorem toBook_ev (F : List TeamA) (w d s : Int) (L : List Int) (ag : Bool) (G : List GameA) (fa ta : List Int) (h1 : F.length ≤ 1048576) (h2 : L.length ≤ 1048576) (h3 : G.length ≤ 1048576) (h4 : fa.length ≤ 1048576) (h5 : ta.length ≤ 1048576) :
    Ev (fun k => laws_toBook.f k F w d s L ag G fa ta) (F.map convT, w, d, s, L, ag, G.map convG, fa, ta) := by
  unfold laws_toBook.f laws_toRules.f
  exact Ev.bind (toTeam_ev F h1) (Ev.bind (Ev.bind (toInt_ev L h2) (Ev.now (w, d, s, L, ag))) (Ev.bind (toGame_ev G h3) (Ev.bind (toInt_ev fa h4) (Ev.bind (toInt_ev ta h5) (Ev.now _)))))
theorem eqRules_ev (w d s : Int) (L : List Int) (ag : Bool) (h2 : L.length ≤ 1048576) : Ev (fun k => laws_eqRules.f k w d s L ag w d s L ag) true := by
  unfold laws_eqRules.f
  refine Ev.congr (fun k => by rw [if_pos rfl, if_pos rfl, if_pos rfl]) (Ev.bind (eqInt_ev L h2) (Ev.val fun k => ?_))
  simp
theorem eqBook_ev (F : List Team) (w d s : Int) (L : List Int) (ag : Bool) (G : List Game) (fa ta : List Int) (h1 : F.length ≤ 1048576) (h2 : L.length ≤ 1048576) (h3 : G.length ≤ 1048576) (h4 : fa.length ≤ 1048576) (h5 : ta.length ≤ 1048576) :
    Ev (fun k => laws_eqBook.f k F w d s L ag G fa ta F w d s L ag G fa ta) true := by
  unfold laws_eqBook.f
  refine Ev.bind (eqTeam_ev F h1) (Ev.congr (fun k => by rw [if_pos rfl]) (Ev.bind (eqRules_ev w d s L ag h2) (Ev.congr (fun k => by rw [if_pos rfl]) (Ev.bind (eqGame_ev G h3) (Ev.congr (fun k => by rw [if_pos rfl]) (Ev.bind (eqInt_ev fa h4) (Ev.congr (fun k => by rw [if_pos rfl]) (Ev.bind (eqInt_ev ta h5) (Ev.val fun k => by rw [if_pos rfl])))))))))
noncomputable def markBk (a : Int) (f l g x y : Nat) : Int × List Team × List Int × List Game × List Int × List Int :=
  (a + 3 * f + l + 5 * g + x + y, marksTm f a, marksI l (a + 3 * f), marksGm g (a + 3 * f + l), marksI x (a + 3 * f + l + 5 * g), marksI y (a + 3 * f + l + 5 * g + x))
theorem markBook_ev (F : List Team) (w d s : Int) (L : List Int) (ag : Bool) (G : List Game) (fa ta : List Int) (a : Int) (h0 : 0 < a) (ha : a ≤ 10000000) (h1 : F.length ≤ 1048576) (h2 : L.length ≤ 1048576) (h3 : G.length ≤ 1048576) (h4 : fa.length ≤ 1048576) (h5 : ta.length ≤ 1048576) :
    Ev (fun k => laws_markBook.f k F w d s L ag G fa ta a) (markBk a F.length L.length G.length fa.length ta.length) := by
  unfold laws_markBook.f laws_markRules.f
  refine Ev.bind (markTeam_ev F a h0 (by omega)) ?_
  refine Ev.bind (Ev.bind (markInt_ev L _ (by omega) (by omega)) (Ev.now (a + 3 * F.length + L.length, marksI L.length (a + 3 * F.length)))) ?_
  refine Ev.bind (markGame_ev G _ (by show 0 < a + 3 * (F.length : Int) + L.length; omega) (by show a + 3 * (F.length : Int) + L.length + 5 * G.length ≤ _; omega)) ?_
  refine Ev.bind (markInt_ev fa _ (by show 0 ≤ a + 3 * (F.length : Int) + L.length + 5 * G.length; omega) (by show a + 3 * (F.length : Int) + L.length + 5 * G.length + fa.length ≤ _; omega)) ?_
  refine Ev.bind (markInt_ev ta _ (by show 0 ≤ a + 3 * (F.length : Int) + L.length + 5 * G.length + fa.length; omega) (by show a + 3 * (F.length : Int) + L.length + 5 * G.length + fa.length + ta.length ≤ _; omega)) ?_
  exact Ev.now _
theorem heldBook_ev (w d s : Int) (ag : Bool) (a : Int) (h0 : 0 < a) (ha : a ≤ 10000000) (f l g x y : Nat) (h1 : f ≤ 1048576) (h2 : l ≤ 1048576) (h3 : g ≤ 1048576) (h4 : x ≤ 1048576) (h5 : y ≤ 1048576) :
    Ev (fun k => laws_heldBook.f k (markBk a f l g x y).2.1 w d s (markBk a f l g x y).2.2.1 ag (markBk a f l g x y).2.2.2.1 (markBk a f l g x y).2.2.2.2.1 (markBk a f l g x y).2.2.2.2.2 a) (markBk a f l g x y).1 := by
  unfold laws_heldBook.f laws_heldRules.f markBk
  refine Ev.bind (heldTeam_ev f a h0 (by omega)) (Ev.congr (fun k => by rw [if_neg (by omega)]) ?_)
  refine Ev.bind (Ev.bind (heldInt_ev l _ (by omega) (by omega)) (Ev.val fun k => by rw [if_neg (by omega)])) (Ev.congr (fun k => by rw [if_neg (by omega)]) ?_)
  refine Ev.bind (heldGame_ev g _ (by omega) (by omega)) (Ev.congr (fun k => by rw [if_neg (by omega)]) ?_)
  refine Ev.bind (heldInt_ev x _ (by omega) (by omega)) (Ev.congr (fun k => by rw [if_neg (by omega)]) ?_)
  exact Ev.bind (heldInt_ev y _ (by omega) (by omega)) (Ev.val fun k => by rw [if_neg (by omega)])
theorem markBk_pos (a : Int) (h0 : 0 < a) (f l g x y : Nat) : 0 < (markBk a f l g x y).1 := by
  unfold markBk
  show 0 < a + 3 * (f : Int) + l + 5 * g + x + y
  omega
structure BkSmall (F : List TeamA) (L : List Int) (G : List GameA) (fa ta : List Int) : Prop where
  f : F.length ≤ 1048576
  n : ∀ t ∈ F, t.f0.size ≤ 1048576
  l : L.length ≤ 1048576
  g : G.length ≤ 1048576
  x : fa.length ≤ 1048576
  y : ta.length ≤ 1048576
theorem szTeam_ev (l : List TeamA) (hl : l.length ≤ 9223372036854775807) (hn : ∀ t ∈ l, t.f0.size ≤ 9223372036854775807) (x : Int) (h0 : 0 ≤ x) (h1 : x ≤ 1048576) : ∃ t, Ev (fun k => laws_szTeamS.f k l x) t ∧ (t < 0 ∨ 0 ≤ t ∧ t ≤ x ∧ l.length ≤ 1048576 ∧ ∀ r ∈ l, r.f0.size ≤ 1048576) := by
  have key : l.length ≤ 1048576 → ∀ (d i : Nat) (x : Int), i + d = l.length → 0 ≤ x → x ≤ 1048576 → ∃ t, Ev (fun k => laws_szTeamS.l0 k l x (i : Int)) t ∧ (t < 0 ∨ 0 ≤ t ∧ t ≤ x ∧ ∀ r ∈ l.drop i, r.f0.size ≤ 1048576) := by
    intro hl2 d
    induction d with
    | zero =>
      intro i x hi h0 h1
      refine ⟨x, Ev.step (f := fun _ => some x) (fun k => by rw [laws_szTeamS.l0, if_neg (by omega)]) (Ev.now _), .inr ⟨h0, Int.le_refl _, ?_⟩⟩
      rw [List.drop_eq_nil_of_le (by omega)]
      intro r hr; cases hr
    | succ d ih =>
      intro i x hi h0 h1
      have hlt : i < l.length := by omega
      have hm := hn l[i] (List.getElem_mem hlt)
      have hw : wrap64 (x - (l[i].f0.size : Int)) = x - l[i].f0.size := wrap_id _ (by omega) (by omega)
      by_cases h : x - (l[i].f0.size : Int) < 0
      · exact ⟨-1, Ev.step (f := fun _ => some (-1)) (fun k => by rw [laws_szTeamS.l0, if_pos (by omega), if_pos (by omega), rdTA_eq l i hlt, laws_szTeam.f, hw, if_pos h, Option.bind_some, if_pos (by decide)]) (Ev.now _), .inl (by decide)⟩
      · obtain ⟨t, e, ht⟩ := ih (i + 1) (x - l[i].f0.size) (by omega) (by omega) (by omega)
        refine ⟨t, Ev.step (fun k => by rw [laws_szTeamS.l0, if_pos (by omega), if_pos (by omega), rdTA_eq l i hlt, laws_szTeam.f, hw, if_neg h, Option.bind_some, if_neg h, wrap_succ i (by omega)]) e, ?_⟩
        rcases ht with ht | ⟨ht, ht2, hd⟩
        · exact .inl ht
        · refine .inr ⟨ht, by omega, ?_⟩
          rw [List.drop_eq_getElem_cons hlt]
          intro r hr
          rcases List.mem_cons.mp hr with rfl | hr
          · omega
          · exact hd r hr
  by_cases h : x - (l.length : Int) < 0
  · exact ⟨-1, Ev.congr (f := fun _ => some (-1)) (fun k => by unfold laws_szTeamS.f; rw [wrap_id _ (by omega) (by omega), if_pos h]) (Ev.now _), .inl (by decide)⟩
  · obtain ⟨t, e, ht⟩ := key (by omega) l.length 0 (x - l.length) (by omega) (by omega) (by omega)
    refine ⟨t, Ev.congr (fun k => by unfold laws_szTeamS.f; rw [wrap_id _ (by omega) (by omega), if_neg h]; rfl) e, ?_⟩
    rcases ht with ht | ⟨ht, ht2, hd⟩
    · exact .inl ht
    · exact .inr ⟨ht, by omega, by omega, by rw [List.drop_zero] at hd; exact hd⟩
theorem szGame_eq (r : List GameA) (x : Int) (h0 : 0 ≤ x) (h1 : x ≤ 1048576) (hr : r.length ≤ 9223372036854775807) : laws_szGameS.f r x = some (if x - r.length < 0 then -1 else x - r.length) := by
  unfold laws_szGameS.f
  rw [wrap_id _ (by omega) (by omega)]
  split <;> rfl
theorem szBook_ev (F : List TeamA) (w d s : Int) (L : List Int) (ag : Bool) (G : List GameA) (fa ta : List Int) (hf : F.length ≤ 9223372036854775807) (hn : ∀ t ∈ F, t.f0.size ≤ 9223372036854775807) (hl : L.length ≤ 9223372036854775807) (hg : G.length ≤ 9223372036854775807) (hx : fa.length ≤ 9223372036854775807) (hy : ta.length ≤ 9223372036854775807) :
    ∃ t, Ev (fun k => laws_szBook.f k F w d s L ag G fa ta 1048576) t ∧ (t < 0 ∨ 0 ≤ t ∧ t ≤ 1048576 ∧ BkSmall F L G fa ta) := by
  obtain ⟨t1, e1, c1⟩ := szTeam_ev F hf hn 1048576 (by decide) (by decide)
  have neg : ∀ {g : Nat → Option Int}, Ev g (-1) → ∃ t, Ev g t ∧ (t < 0 ∨ 0 ≤ t ∧ t ≤ 1048576 ∧ BkSmall F L G fa ta) := fun e => ⟨_, e, .inl (by decide)⟩
  unfold laws_szBook.f
  rcases c1 with c1 | ⟨c0, c2, c3, c4⟩
  · exact neg (Ev.bind e1 (Ev.val fun k => by rw [if_pos c1]))
  have r1 := szInt_eq L t1 c0 c2 (by omega)
  by_cases d1 : t1 - (L.length : Int) < 0
  · rw [if_pos d1] at r1
    exact neg (Ev.bind e1 (Ev.val fun k => by rw [if_neg (by omega), laws_szRules.f, r1, Option.bind_some, if_pos (by decide), Option.bind_some, if_pos (by decide)]))
  rw [if_neg d1] at r1
  have r2 := szGame_eq G (t1 - L.length) (by omega) (by omega) (by omega)
  by_cases d2 : t1 - (L.length : Int) - G.length < 0
  · rw [if_pos d2] at r2
    exact neg (Ev.bind e1 (Ev.val fun k => by rw [if_neg (by omega), laws_szRules.f, r1, Option.bind_some, if_neg d1, Option.bind_some, if_neg d1, r2, Option.bind_some, if_pos (by decide)]))
  rw [if_neg d2] at r2
  have r3 := szInt_eq fa (t1 - L.length - G.length) (by omega) (by omega) (by omega)
  by_cases d3 : t1 - (L.length : Int) - G.length - fa.length < 0
  · rw [if_pos d3] at r3
    exact neg (Ev.bind e1 (Ev.val fun k => by rw [if_neg (by omega), laws_szRules.f, r1, Option.bind_some, if_neg d1, Option.bind_some, if_neg d1, r2, Option.bind_some, if_neg d2, r3, Option.bind_some, if_pos (by decide)]))
  rw [if_neg d3] at r3
  have r4 := szInt_eq ta (t1 - L.length - G.length - fa.length) (by omega) (by omega) (by omega)
  by_cases d4 : t1 - (L.length : Int) - G.length - fa.length - ta.length < 0
  · rw [if_pos d4] at r4
    exact neg (Ev.bind e1 (Ev.val fun k => by rw [if_neg (by omega), laws_szRules.f, r1, Option.bind_some, if_neg d1, Option.bind_some, if_neg d1, r2, Option.bind_some, if_neg d2, r3, Option.bind_some, if_neg d3, r4, Option.bind_some, if_pos (by decide)]))
  rw [if_neg d4] at r4
  refine ⟨_, Ev.bind e1 (Ev.val fun k => by rw [if_neg (by omega), laws_szRules.f, r1, Option.bind_some, if_neg d1, Option.bind_some, if_neg d1, r2, Option.bind_some, if_neg d2, r3, Option.bind_some, if_neg d3, r4, Option.bind_some, if_neg d4]), .inr ⟨by omega, by omega, ⟨c3, c4, ?_, ?_, ?_, ?_⟩⟩⟩ <;> omega
def BkArg (F : List TeamA) (w d s : Int) (L : List Int) (G : List GameA) (fa ta : List Int) : Prop :=
  (F.length ≤ maxLen ∧ ∀ t ∈ F, t.f0.size ≤ maxLen ∧ (Lit.int .i64 t.f1).wf = true ∧ (Lit.int .i64 t.f2).wf = true) ∧
  ((Lit.int .i64 w).wf = true ∧ (Lit.int .i64 d).wf = true ∧ (Lit.int .i64 s).wf = true ∧ (L.length ≤ maxLen ∧ ∀ x ∈ L, (Lit.int .i64 x).wf = true) ∧ True) ∧
  (G.length ≤ maxLen ∧ ∀ g ∈ G, (Lit.int .i64 g.f0).wf = true ∧ (Lit.int .i64 g.f1).wf = true ∧ (Lit.int .i64 g.f2).wf = true ∧ (Lit.int .i64 g.f3).wf = true ∧ (Lit.int .i64 g.f4).wf = true) ∧
  (fa.length ≤ maxLen ∧ ∀ x ∈ fa, (Lit.int .i64 x).wf = true) ∧ (ta.length ≤ maxLen ∧ ∀ x ∈ ta, (Lit.int .i64 x).wf = true)
theorem szBook_arg (F : List TeamA) (w d s : Int) (L : List Int) (ag : Bool) (G : List GameA) (fa ta : List Int) (h : BkArg F w d s L G fa ta) :
    ∃ t, Ev (fun k => laws_szBook.f k F w d s L ag G fa ta 1048576) t ∧ (t < 0 ∨ 0 ≤ t ∧ t ≤ 1048576 ∧ BkSmall F L G fa ta) :=
  szBook_ev F w d s L ag G fa ta h.1.1 (fun t ht => (h.1.2 t ht).1) h.2.1.2.2.2.1.1 h.2.2.1.1 h.2.2.2.1.1 h.2.2.2.2.1
theorem l01In_eq (a lo hi : Int) : spec_l01In.f a lo hi = some (withinB a lo hi) := by
  unfold spec_l01In.f withinB
  by_cases h : lo ≤ a <;> simp [h]
theorem sIsName_ev (s : ByteArray) (hs : s.size ≤ 4611686018427387903) : Ev (fun k => spec_IsName.f k s) (isNameB s) := by
  refine Ev.eq (Ev.down s.size (fun i k => spec_IsName.l0 k s (i : Int)) (fun i => nameFrom s i && withinB s.size 1 8) ?_ ?_) rfl
  · refine Ev.step (f := fun _ => some (withinB s.size 1 8)) (fun k => by rw [spec_IsName.l0, if_neg (by omega), l01In_eq]; rfl) (Ev.eq (Ev.now _) ?_)
    rw [nameFrom_end s _ (Nat.le_refl _)]
    rfl
  · intro i hi h
    have hw := wrap_succ i (by omega)
    cases hn : nameAt i (bt s i) with
    | true =>
      refine Ev.eq (Ev.step (fun k => ?_) h) (by simp only [nameFrom_step s i hi, hn, Bool.true_and])
      rw [spec_IsName.l0, if_pos (by omega), if_pos (by omega), hw]
      unfold nameAt at hn
      generalize bt s i = c at hn
      grind
    | false =>
      refine Ev.eq (Ev.step (f := fun _ => some false) (fun k => ?_) (Ev.now _)) (by simp only [nameFrom_step s i hi, hn, Bool.false_and])
      rw [spec_IsName.l0, if_pos (by omega), if_pos (by omega), hw]
      unfold nameAt at hn
      generalize bt s i = c at hn
      grind
theorem sTeamOk_ev (t : Team) (hs : t.f0.size ≤ 4611686018427387903) : Ev (fun k => spec_TeamOk.f k t.f0 t.f1 t.f2) (teamOkB t) := by
  unfold spec_TeamOk.f teamOkB
  refine Ev.bind (sIsName_ev _ hs) (Ev.val fun k => ?_)
  simp only [l01In_eq, Option.bind_some]
  cases isNameB t.f0 <;> cases withinB t.f1 0 5 <;> simp
theorem rdTm_eq (l : List Team) (i : Nat) (h : i < l.length) : rd_T139 l (i : Int) = l[i] := by
  unfold rd_T139; simp [h]
theorem sFieldOk_ev (l : List Team) (h : ∀ t, t ∈ l → t.f0.size ≤ 4611686018427387903) : Ev (fun k => spec_FieldOk.f k l) (fieldOkB l) := by
  unfold spec_FieldOk.f fieldOkB
  simp only [l01In_eq, Option.bind_some]
  cases hw : withinB (l.length : Int) 2 8 with
  | false => exact Ev.eq (Ev.val fun k => by rw [if_neg (by decide)]) (by simp)
  | true =>
    have hl : l.length ≤ 8 := by simp [withinB] at hw; omega
    refine Ev.congr (fun k => by rw [if_pos rfl]) ?_
    rw [Bool.and_true]
    refine Ev.eq (Ev.down l.length (fun i k => spec_FieldOk.l0 k l l (l.length : Int) (i : Int)) (fun i => fieldFrom (l.take i) (l.drop i)) ?_ ?_) rfl
    · exact Ev.step (f := fun _ => some true) (fun k => by rw [spec_FieldOk.l0, if_neg (by omega)]) (Ev.eq (Ev.now _) (by rw [List.drop_length]; rfl))
    · intro i hi hn
      rw [List.drop_eq_getElem_cons hi, fieldFrom]
      have ht := sTeamOk_ev l[i] (h _ (List.getElem_mem hi))
      refine Ev.step (f := fun k => (spec_TeamOk.f k l[i].f0 l[i].f1 l[i].f2).bind fun t130 => (if t130 = true then (spec_FieldOk.l1 k l l (l.length : Int) (i : Int) (l.take i) ((l.take i).length : Int) 0 l[i].f0 l[i].f1 l[i].f2) else (some false))) (fun k => ?_) (Ev.bind ht ?_)
      · rw [spec_FieldOk.l0, if_pos (by omega), if_pos (by omega), if_pos (by omega), rdTm_eq l i hi]
        have hc : (i : Int) ≤ (l.length : Int) := by omega
        simp only [if_pos hc, Option.bind_some, Int.toNat_natCast]
      · cases hk : teamOkB l[i] with
        | false => exact Ev.eq (Ev.val fun k => by rw [if_neg (by decide)]) (by simp)
        | true =>
          refine Ev.congr (fun k => by rw [if_pos rfl]) ?_
          rw [List.take_succ_eq_append_getElem hi] at hn
          generalize hp : l.take i = pre at hn
          have hpl : pre.length = i := by rw [← hp, List.length_take]; omega
          rw [Bool.true_and]
          refine Ev.eq (Ev.down pre.length (fun j k => spec_FieldOk.l1 k l l (l.length : Int) (i : Int) pre (pre.length : Int) (j : Int) l[i].f0 l[i].f1 l[i].f2) (fun j => !(pre.drop j).any (teamClash l[i]) && fieldFrom (pre ++ [l[i]]) (l.drop (i + 1))) ?_ ?_) rfl
          · refine Ev.eq (Ev.step (fun k => by rw [spec_FieldOk.l1, if_neg (by omega), wrap_succ i (by omega)]) hn) (by rw [List.drop_length]; simp)
          · intro j hj hnj
            rw [List.drop_eq_getElem_cons hj, List.any_cons]
            by_cases h1 : pre[j].f0.toList = l[i].f0.toList
            · refine Ev.eq (Ev.step (f := fun _ => some false) (fun k => by rw [spec_FieldOk.l1, if_pos (by omega), if_pos (by omega), if_pos (by omega), rdTm_eq pre j hj, if_pos h1]) (Ev.now _)) (by simp [teamClash, h1])
            · by_cases h2 : pre[j].f2 = l[i].f2
              · refine Ev.eq (Ev.step (f := fun _ => some false) (fun k => by rw [spec_FieldOk.l1, if_pos (by omega), if_pos (by omega), if_pos (by omega), rdTm_eq pre j hj, if_neg h1, if_pos h2]) (Ev.now _)) (by simp [teamClash, h2])
              · refine Ev.eq (Ev.step (fun k => by rw [spec_FieldOk.l1, if_pos (by omega), if_pos (by omega), if_pos (by omega), rdTm_eq pre j hj, if_neg h1, if_neg h2, wrap_succ j (by omega)]) hnj) (by rw [show teamClash l[i] pre[j] = false by unfold teamClash; rw [beq_eq_false_iff_ne.mpr h1, beq_eq_false_iff_ne.mpr h2]; rfl, Bool.false_or])
theorem sHas_ev (l : List Int) (x : Int) (hl : l.length ≤ 1048576) : Ev (fun k => spec_l02Has.f k l x) (hasI l x) := by
  refine Ev.eq (Ev.down l.length (fun i k => spec_l02Has.l0 k x l (l.length : Int) (i : Int)) (fun i => hasI (l.drop i) x) ?_ ?_) rfl
  · exact Ev.step (f := fun _ => some false) (fun k => by rw [spec_l02Has.l0, if_neg (by omega)]) (Ev.eq (Ev.now _) (by rw [List.drop_length]; rfl))
  · intro i hi hn
    rw [List.drop_eq_getElem_cons hi]
    by_cases h : l[i] = x
    · exact Ev.eq (Ev.step (f := fun _ => some true) (fun k => by rw [spec_l02Has.l0, if_pos (by omega), if_pos (by omega), if_pos (by omega), rd_eq l i hi, if_pos h]) (Ev.now _)) (by simp [hasI, h])
    · exact Ev.eq (Ev.step (fun k => by rw [spec_l02Has.l0, if_pos (by omega), if_pos (by omega), if_pos (by omega), rd_eq l i hi, if_neg h, wrap_succ i (by omega)]) hn) (by simp only [hasI, List.any_cons, decide_eq_false (show ¬ x = l[i] from fun e => h e.symm), Bool.false_or])
theorem sRulesOk_ev (win draw loss : Int) (l : List Int) (again : Bool) : Ev (fun k => spec_RulesOk.f k win draw loss l again) (rulesOkB win draw loss l) := by
  unfold spec_RulesOk.f rulesOkB
  simp only [l01In_eq, Option.bind_some]
  have fals : ∀ q, q = false → Ev (fun k => spec_RulesOk.j0 k true win draw loss l again) q := fun q hq => Ev.step (f := fun _ => some false) (fun k => by rw [spec_RulesOk.j0, if_pos rfl]) (Ev.eq (Ev.now _) hq.symm)
  by_cases h1 : withinB win 0 10 = true
  · by_cases h2 : withinB draw 0 win = true
    · by_cases h3 : withinB loss 0 draw = true
      · by_cases h4 : withinB l.length 1 8 = true
        · refine Ev.congr (fun k => by rw [if_pos h1, if_pos h2, if_pos h3, h4]) ?_
          have hl : l.length ≤ 8 := by simp [withinB] at h4; omega
          have hr : (ladderFrom [] l && decide (0 ≤ loss) && decide (loss ≤ draw) && decide (draw ≤ win) && decide (win ≤ 10) && true) = ladderFrom [] l := by
            simp [withinB] at h1 h2 h3
            simp [h1, h2, h3]
          rw [h4, hr]
          refine Ev.step (f := fun k => spec_RulesOk.l0 k l (l.length : Int) 0 win draw loss l again) (fun k => by rw [spec_RulesOk.j0, if_neg (by decide)]) ?_
          refine Ev.eq (Ev.down l.length (fun i k => spec_RulesOk.l0 k l (l.length : Int) (i : Int) win draw loss l again) (fun i => ladderFrom (l.take i) (l.drop i)) ?_ ?_) rfl
          · exact Ev.step (f := fun _ => some true) (fun k => by rw [spec_RulesOk.l0, if_neg (by omega)]) (Ev.eq (Ev.now _) (by rw [List.drop_length]; rfl))
          · intro i hi hn
            rw [List.drop_eq_getElem_cons hi, ladderFrom]
            rw [List.take_succ_eq_append_getElem hi] at hn
            cases hk : withinB l[i] 1 8 with
            | false => exact Ev.eq (Ev.step (f := fun _ => some false) (fun k => by rw [spec_RulesOk.l0, if_pos (by omega), if_pos (by omega), if_pos (by omega), rd_eq l i hi, l01In_eq, hk, Option.bind_some, if_neg (by decide)]) (Ev.now _)) (by simp)
            | true =>
              refine Ev.step (f := fun k => (spec_l02Has.f k (l.take i) l[i]).bind fun t => if t = true then some false else spec_RulesOk.l0 k l (l.length : Int) ((i + 1 : Nat) : Int) win draw loss l again) (fun k => by rw [spec_RulesOk.l0, if_pos (by omega), if_pos (by omega), if_pos (by omega), rd_eq l i hi, l01In_eq, hk, Option.bind_some, if_pos rfl, if_pos (by omega), wrap_succ i (by omega), Int.toNat_natCast]) ?_
              refine Ev.bind (sHas_ev _ _ (by rw [List.length_take]; omega)) ?_
              cases hh : hasI (l.take i) l[i] with
              | true => exact Ev.eq (Ev.val fun k => by rw [if_pos rfl]) (by simp)
              | false => exact Ev.eq (Ev.congr (fun k => by rw [if_neg (by decide)]) hn) (by simp)
        · refine Ev.congr (fun k => by rw [if_pos h1, if_pos h2, if_pos h3]) ?_
          simp only [Bool.not_eq_true] at h4
          rw [h4]
          exact fals _ (by simp)
      · refine Ev.congr (fun k => by rw [if_pos h1, if_pos h2, if_neg h3]) (fals _ ?_)
        simp [withinB] at h3
        by_cases h5 : 0 ≤ loss
        · simp [show ¬ loss ≤ draw by omega]
        · simp [h5]
    · refine Ev.congr (fun k => by rw [if_pos h1, if_neg h2]) (fals _ ?_)
      simp [withinB] at h2
      by_cases h5 : 0 ≤ draw
      · simp [show ¬ draw ≤ win by omega]
      · by_cases h6 : 0 ≤ loss
        · simp [show ¬ loss ≤ draw by omega]
        · simp [h6]
  · refine Ev.congr (fun k => by rw [if_neg h1]) (fals _ ?_)
    simp [withinB] at h1
    by_cases h5 : win ≤ 10
    · by_cases h6 : 0 ≤ loss
      · by_cases h7 : loss ≤ draw
        · simp [show ¬ draw ≤ win by omega]
        · simp [h7]
      · simp [h6]
    · simp [h5]
theorem sGameOk_ev (n : Int) (g : Game) : Ev (fun k => spec_GameOk.f k n g.f0 g.f1 g.f2 g.f3 g.f4) (gameOkB n g) := by
  unfold spec_GameOk.f gameOkB
  simp only [l01In_eq, Option.bind_some]
  have fals : ∀ q, q = false → Ev (fun k => spec_GameOk.j0 k true g.f0 g.f1 g.f2 g.f3 g.f4) q := fun q hq => Ev.step (f := fun _ => some false) (fun k => by rw [spec_GameOk.j0, if_pos rfl]) (Ev.eq (Ev.now _) hq.symm)
  by_cases h1 : withinB n 2 8 = true
  · have hw : wrap64 (n - 1) = n - 1 := by
      simp [withinB] at h1
      unfold wrap64; omega
    rw [hw, h1]
    by_cases h2 : withinB g.f0 0 (n - 1) = true
    · by_cases h3 : withinB g.f1 0 (n - 1) = true
      · by_cases h4 : g.f0 = g.f1
        · exact Ev.congr (fun k => by rw [if_pos rfl, if_pos h2, if_pos h3, if_pos h4]) (fals _ (by simp [h4]))
        · by_cases h5 : withinB g.f4 0 4 = true
          · refine Ev.congr (fun k => by rw [if_pos rfl, if_pos h2, if_pos h3, if_neg h4, h5]) ?_
            rw [h2, h3, h5, decide_eq_false h4]
            by_cases h6 : g.f4 = 1
            · refine Ev.step (f := fun _ => some (withinB g.f2 0 99 && withinB g.f3 0 99)) (fun k => ?_) (Ev.eq (Ev.now _) (by simp [h6]))
              rw [spec_GameOk.j0, if_neg (by decide), if_pos h6]
              simp only [l01In_eq, Option.bind_some]
              cases withinB g.f2 0 99 <;> simp
            · refine Ev.step (f := fun _ => some (decide (g.f2 = 0) && decide (g.f3 = 0))) (fun k => ?_) (Ev.eq (Ev.now _) ?_)
              · rw [spec_GameOk.j0, if_neg (by decide), if_neg h6]
                by_cases h7 : g.f2 = 0
                · rw [if_pos h7]; simp [h7]; grind
                · rw [if_neg h7]; simp [h7]
              · rw [if_neg h6]
                unfold withinB
                grind
          · refine Ev.congr (fun k => by rw [if_pos rfl, if_pos h2, if_pos h3, if_neg h4]) ?_
            simp only [Bool.not_eq_true] at h5
            rw [h5]
            exact fals _ (by simp)
      · exact Ev.congr (fun k => by rw [if_pos rfl, if_pos h2, if_neg h3]) (fals _ (by simp [Bool.not_eq_true _ ▸ h3]))
    · exact Ev.congr (fun k => by rw [if_pos rfl, if_neg h2]) (fals _ (by simp [Bool.not_eq_true _ ▸ h2]))
  · exact Ev.congr (fun k => by rw [if_neg h1]) (fals _ (by simp [Bool.not_eq_true _ ▸ h1]))
theorem sGameOf_ev (l : List Game) (h a : Int) (hl : l.length ≤ 1048576) : Ev (fun k => spec_GameOf.f k l h a) (idxI (gameIs h a) l) := by
  have hp : ∀ x : Int, x = -1 → ∀ y, (if y < 0 then (-1 : Int) else y) = (if y < 0 then -1 else y) := fun _ _ _ => rfl
  refine Ev.eq (Ev.down l.length (fun i k => spec_GameOf.l0 k h a l (l.length : Int) (i : Int)) (fun i => if idxI (gameIs h a) (l.drop i) < 0 then -1 else idxI (gameIs h a) (l.drop i) + i) ?_ ?_) ?_
  · exact Ev.step (f := fun _ => some (-1)) (fun k => by rw [spec_GameOf.l0, if_neg (by omega)]) (Ev.eq (Ev.now _) (by rw [List.drop_length]; rfl))
  · intro i hi hn
    rw [List.drop_eq_getElem_cons hi, idxI]
    by_cases h1 : l[i].f0 = h
    · by_cases h2 : l[i].f1 = a
      · exact Ev.eq (Ev.step (f := fun _ => some (i : Int)) (fun k => by rw [spec_GameOf.l0, if_pos (by omega), if_pos (by omega), if_pos (by omega), rdG_eq l i hi, if_pos h1, if_pos h2]) (Ev.now _)) (by simp [gameIs, h1, h2])
      · refine Ev.eq (Ev.step (fun k => by rw [spec_GameOf.l0, if_pos (by omega), if_pos (by omega), if_pos (by omega), rdG_eq l i hi, if_pos h1, if_neg h2, wrap_succ i (by omega)]) hn) ?_
        simp only [gameIs, h1, beq_self_eq_true, beq_eq_false_iff_ne.mpr h2, Bool.true_and, Bool.false_eq_true, if_false]
        generalize idxI (gameIs h a) (l.drop (i + 1)) = y
        grind
    · refine Ev.eq (Ev.step (fun k => by rw [spec_GameOf.l0, if_pos (by omega), if_pos (by omega), if_pos (by omega), rdG_eq l i hi, if_neg h1, wrap_succ i (by omega)]) hn) ?_
      have hg : gameIs h a l[i] = false := by simp [gameIs, h1]
      rw [hg]
      generalize idxI (gameIs h a) (l.drop (i + 1)) = y
      grind
  · show (if idxI (gameIs h a) l < 0 then (-1 : Int) else idxI (gameIs h a) l + ((0 : Nat) : Int)) = _
    have : ∀ l : List Game, idxI (gameIs h a) l = -1 ∨ 0 ≤ idxI (gameIs h a) l := by
      intro l
      induction l with
      | nil => exact .inl rfl
      | cons y l ih => simp only [idxI]; grind
    rcases this l with h3 | h3
    · rw [h3]; rfl
    · rw [if_neg (by omega)]; omega
theorem idx_first {α : Type} (p : α → Bool) (l : List α) (i : Nat) (hi : i < l.length) (h : p l[i] = true) : decide (idxI p l = (i : Int)) = !(l.take i).any p := by
  induction l generalizing i with
  | nil => simp at hi
  | cons x l ih =>
    cases i with
    | zero => simp only [List.getElem_cons_zero] at h; simp [idxI, h]
    | succ i =>
      simp only [List.getElem_cons_succ] at h
      have := ih i (by simpa using hi) h
      simp only [List.take_succ_cons, List.any_cons]
      by_cases hx : p x = true
      · have e1 : idxI p (x :: l) = 0 := by simp only [idxI, hx, if_true]
        rw [hx, Bool.true_or, e1]
        exact decide_eq_false (by omega)
      · simp only [Bool.not_eq_true] at hx
        have h2 : 0 ≤ idxI p l := by
          have := idxI_any p l
          have h3 : l.any p = true := List.any_eq_true.mpr ⟨l[i]'(by simpa using hi), List.getElem_mem _, h⟩
          rw [h3] at this
          simpa using this
        have e : (if p x = true then 0 else if idxI p l < 0 then -1 else idxI p l + 1) = idxI p l + 1 := by
          rw [if_neg (by rw [hx]; decide), if_neg (by omega)]
        have e2 : decide (idxI p l + 1 = ((i + 1 : Nat) : Int)) = decide (idxI p l = (i : Int)) := decide_eq_decide.mpr (by omega)
        have e3 : decide (idxI p (x :: l) = ((i + 1 : Nat) : Int)) = decide (idxI p l + 1 = ((i + 1 : Nat) : Int)) := decide_eq_decide.mpr (by rw [show idxI p (x :: l) = idxI p l + 1 from e])
        rw [hx, Bool.false_or, ← this, ← e2]
        exact e3
theorem sSeasonOk_ev (n : Int) (l : List Game) : Ev (fun k => spec_SeasonOk.f k n l) (seasonOkB n l) := by
  unfold spec_SeasonOk.f seasonOkB
  by_cases hl : (l.length : Int) > 60
  · exact Ev.eq (Ev.val fun k => by rw [if_pos hl]) (by simp; intro _; omega)
  · refine Ev.congr (fun k => by rw [if_neg hl]) ?_
    rw [decide_eq_true (show (l.length : Int) ≤ 60 by omega), Bool.and_true]
    refine Ev.eq (Ev.down l.length (fun i k => spec_SeasonOk.l0 k n l l (l.length : Int) (i : Int)) (fun i => seasonFrom n (l.take i) (l.drop i)) ?_ ?_) rfl
    · exact Ev.step (f := fun _ => some true) (fun k => by rw [spec_SeasonOk.l0, if_neg (by omega)]) (Ev.eq (Ev.now _) (by rw [List.drop_length]; rfl))
    · intro i hi hn
      rw [List.drop_eq_getElem_cons hi, seasonFrom]
      rw [List.take_succ_eq_append_getElem hi] at hn
      refine Ev.step (f := fun k => (spec_GameOk.f k n l[i].f0 l[i].f1 l[i].f2 l[i].f3 l[i].f4).bind fun t158 => (if t158 = true then ((spec_GameOf.f k l l[i].f0 l[i].f1).bind fun t159 => (if t159 = (i : Int) then (spec_SeasonOk.l0 k n l l (l.length : Int) ((i + 1 : Nat) : Int)) else (some false))) else (some false))) (fun k => by rw [spec_SeasonOk.l0, if_pos (by omega), if_pos (by omega), if_pos (by omega), rdG_eq l i hi, wrap_succ i (by omega)]) ?_
      refine Ev.bind (sGameOk_ev n l[i]) ?_
      cases hg : gameOkB n l[i] with
      | false => exact Ev.eq (Ev.val fun k => by rw [if_neg (by decide)]) (by simp)
      | true =>
        refine Ev.congr (fun k => by rw [if_pos rfl]) (Ev.bind (sGameOf_ev l _ _ (by omega)) ?_)
        have hf := idx_first (gameIs l[i].f0 l[i].f1) l i hi (by simp [gameIs])
        by_cases he : idxI (gameIs l[i].f0 l[i].f1) l = (i : Int)
        · rw [decide_eq_true he] at hf
          exact Ev.eq (Ev.congr (fun k => by rw [if_pos he]) hn) (by rw [← hf]; simp)
        · rw [decide_eq_false he] at hf
          exact Ev.eq (Ev.val fun k => by rw [if_neg he]) (by rw [← hf]; simp)
theorem sBookOk_ev (field : List Team) (win draw loss : Int) (ladder : List Int) (again : Bool) (games : List Game) (fair taken : List Int) (hs : ∀ t, t ∈ field → t.f0.size ≤ 4611686018427387903) :
    Ev (fun k => spec_BookOk.f k field win draw loss ladder again games fair taken) (bookOkB field win draw loss ladder games fair taken) := by
  unfold spec_BookOk.f bookOkB
  have fals : ∀ q, q = false → Ev (fun k => spec_BookOk.j0 k true field win draw loss ladder again games fair taken) q := fun q hq => Ev.step (f := fun _ => some false) (fun k => by rw [spec_BookOk.j0, if_pos rfl]) (Ev.eq (Ev.now _) hq.symm)
  refine Ev.bind (sFieldOk_ev field hs) ?_
  cases h1 : fieldOkB field with
  | false => exact Ev.congr (fun k => by rw [if_neg (by decide)]) (fals _ (by simp))
  | true =>
    have hfl : field.length ≤ 8 := by
      unfold fieldOkB at h1
      simp [withinB] at h1
      omega
    refine Ev.congr (fun k => by rw [if_pos rfl]) (Ev.bind (sRulesOk_ev _ _ _ _ _) ?_)
    cases h2 : rulesOkB win draw loss ladder with
    | false => exact Ev.congr (fun k => by rw [if_neg (by decide)]) (fals _ (by simp))
    | true =>
      refine Ev.congr (fun k => by rw [if_pos rfl]) (Ev.bind (sSeasonOk_ev _ _) ?_)
      cases h3 : seasonOkB field.length games with
      | false => exact Ev.congr (fun k => by rw [if_neg (by decide)]) (fals _ (by simp))
      | true =>
        by_cases h4 : (fair.length : Int) = (field.length : Int)
        · by_cases h5 : (taken.length : Int) = (field.length : Int)
          · refine Ev.congr (f := fun k => spec_BookOk.j0 k false field win draw loss ladder again games fair taken) (fun k => by rw [if_pos rfl, if_pos h4, show ((taken.length : Int) != (field.length : Int)) = false by simp; omega]) ?_
            refine Ev.step (f := fun k => spec_BookOk.l0 k (field.length : Int) 0 field win draw loss ladder again games fair taken) (fun k => by rw [spec_BookOk.j0, if_neg (by decide)]) ?_
            refine Ev.eq (Ev.down field.length (fun i k => spec_BookOk.l0 k (field.length : Int) (i : Int) field win draw loss ladder again games fair taken) (fun i => !(fair.drop i).any (fun x => !withinB x 0 1000) && !(taken.drop i).any (fun x => !withinB x 0 1000)) ?_ ?_) ?_
            · exact Ev.step (f := fun _ => some true) (fun k => by rw [spec_BookOk.l0, if_neg (by omega)]) (Ev.eq (Ev.now _) (by rw [List.drop_eq_nil_of_le (by omega), List.drop_eq_nil_of_le (by omega)]; rfl))
            · intro i hi hn
              rw [List.drop_eq_getElem_cons (show i < fair.length by omega), List.drop_eq_getElem_cons (show i < taken.length by omega)]
              cases ha : withinB fair[i] 0 1000 with
              | false => exact Ev.eq (Ev.step (f := fun _ => some false) (fun k => by rw [spec_BookOk.l0, if_pos (by omega), if_pos (by omega), if_pos (by omega), rd_eq fair i (by omega), l01In_eq, ha, Option.bind_some, if_neg (by decide)]) (Ev.now _)) (by rw [List.any_cons, List.any_cons, ha]; rfl)
              | true =>
                cases hb : withinB taken[i] 0 1000 with
                | false => exact Ev.eq (Ev.step (f := fun _ => some false) (fun k => by rw [spec_BookOk.l0, if_pos (by omega), if_pos (by omega), if_pos (by omega), rd_eq fair i (by omega), l01In_eq, ha, Option.bind_some, if_pos rfl, if_pos (by omega), rd_eq taken i (by omega), l01In_eq, hb, Option.bind_some, if_neg (by decide)]) (Ev.now _)) (by rw [List.any_cons, List.any_cons, ha, hb]; exact Bool.and_false _ |>.symm)
                | true => exact Ev.eq (Ev.step (fun k => by rw [spec_BookOk.l0, if_pos (by omega), if_pos (by omega), if_pos (by omega), rd_eq fair i (by omega), l01In_eq, ha, Option.bind_some, if_pos rfl, if_pos (by omega), rd_eq taken i (by omega), l01In_eq, hb, Option.bind_some, if_pos rfl, wrap_succ i (by omega)]) hn) (by rw [List.any_cons, List.any_cons, ha, hb]; exact (by simp))
            · simp [penaltiesB, h4, h5]
          · refine Ev.congr (f := fun k => spec_BookOk.j0 k true field win draw loss ladder again games fair taken) (fun k => by rw [if_pos rfl, if_pos h4, show ((taken.length : Int) != (field.length : Int)) = true by simp; omega]) (fals _ (by simp [penaltiesB, h5]))
        · exact Ev.congr (fun k => by rw [if_pos rfl, if_neg h4]) (fals _ (by simp [penaltiesB, h4]))
end Go.Proofs.Ythfefanapneocaa.Q
namespace Go.Proofs.Ythfefanapneocaa.Q
open Go.RowKit Go.Proofs.YthfefanapneocaaW.PrintWords Go.Proofs.YthfefanapneocaaW.PrintLast Go.Proofs.YthfefanapneocaaW.PrintMore
section
variable (F : List Team) (w d s : Int) (L : List Int) (ag : Bool) (fa ta : List Int)
theorem iCopied_eq (G : List Game) (h1 : F.length ≤ 1048576) (h2 : L.length ≤ 1048576) (h3 : G.length ≤ 1048576) (h4 : fa.length ≤ 1048576) (h5 : ta.length ≤ 1048576) : impl_Book_copied.f F w d s L ag G fa ta = some (F, w, d, s, L, ag, G, fa, ta) := by
  unfold impl_Book_copied.f slices_Clone_impl_Team_impl_Team.f slices_Clone_impl_Game_impl_Game.f slices_Clone_int_int.f
  simp only [Option.bind_some, List.length_nil, List.nil_append]
  rw [if_pos (by omega), Option.bind_some, if_pos (by omega), Option.bind_some, if_pos (by omega), Option.bind_some, if_pos (by omega), Option.bind_some, if_pos (by omega), Option.bind_some]
theorem sCopy_eq (G : List Game) (h1 : F.length ≤ 1048576) (h2 : L.length ≤ 1048576) (h3 : G.length ≤ 1048576) (h4 : fa.length ≤ 1048576) (h5 : ta.length ≤ 1048576) : spec_l16Copy.f F w d s L ag G fa ta = some (F, w, d, s, L, ag, G, fa, ta) := by
  unfold spec_l16Copy.f
  simp only [Option.bind_some, List.length_nil, List.nil_append]
  rw [if_pos (by omega), if_pos (by omega), if_pos (by omega), if_pos (by omega), if_pos (by omega)]
end
end Go.Proofs.Ythfefanapneocaa.Q
namespace Go.Proofs.Ythfefanapneocaa.Q
open Go.RowKit Go.Proofs.YthfefanapneocaaW.PrintWords Go.Proofs.YthfefanapneocaaW.PrintLast Go.Proofs.YthfefanapneocaaW.PrintMore
theorem seasonFrom_mem (n : Int) (l : List Game) : ∀ pre, seasonFrom n pre l = true → ∀ g ∈ l, gameOkB n g = true := by
  induction l with
  | nil => intro _ _ g hg; cases hg
  | cons x l ih =>
    intro pre h g hg
    rw [seasonFrom, Bool.and_eq_true, Bool.and_eq_true] at h
    rcases List.mem_cons.mp hg with rfl | hg
    · exact h.1.1
    · exact ih _ h.2 g hg
theorem gameOk_ne {n : Int} {g : Game} (h : gameOkB n g = true) : g.f0 ≠ g.f1 := by
  unfold gameOkB at h
  simp only [Bool.and_eq_true, Bool.not_eq_true', decide_eq_false_iff_not] at h
  exact h.1.1.1.1.1.2
def award (g : Game) (team : Int) : Game := ⟨g.f0, g.f1, 0, 0, if g.f0 = team then 2 else 3⟩
theorem sAward_eq (g : Game) (t : Int) : spec_l21Award.f g.f0 g.f1 g.f2 g.f3 g.f4 t = some ((award g t).f0, (award g t).f1, (award g t).f2, (award g t).f3, (award g t).f4) := by
  unfold spec_l21Award.f award
  split <;> rfl
theorem iAward_eq (g : Game) (t : Int) (hn : g.f0 ≠ g.f1) (ht : g.f0 = t ∨ g.f1 = t) : impl_awarded.f g.f0 g.f1 g.f2 g.f3 g.f4 t = some ((award g t).f0, (award g t).f1, (award g t).f2, (award g t).f3, (award g t).f4) := by
  unfold impl_awarded.f award
  by_cases h : g.f1 = t
  · rw [if_pos h, if_neg (show ¬ g.f0 = t by rw [← h]; exact hn)]
  · rw [if_neg h, if_pos (ht.resolve_right h)]
def openWB (g : Game) : Bool := g.f4 == 0
theorem iOpenW_eq (g : Game) : impl_IsOpen.f g.f0 g.f1 g.f2 g.f3 g.f4 = some (openWB g) := rfl
theorem sOpenW_eq (g : Game) : spec_IsOpen.f g.f0 g.f1 g.f2 g.f3 g.f4 = some (openWB g) := rfl
def wdG (team rule : Int) (g : Game) : Game :=
  if g.f0 = team ∨ g.f1 = team then (if rule = 1 then ⟨g.f0, g.f1, 0, 0, 4⟩ else if openWB g then award g (wrap64 (wrap64 (g.f0 + g.f1) - team)) else g) else g
theorem iPlays_eq (g : Game) (t : Int) : impl_plays.f g.f0 g.f1 g.f2 g.f3 g.f4 t = some (decide (g.f0 = t ∨ g.f1 = t)) := by
  unfold impl_plays.f
  by_cases h : g.f0 = t
  · rw [if_pos h, decide_eq_true (Or.inl h)]
  · by_cases h1 : g.f1 = t
    · rw [if_neg h, decide_eq_true (Or.inr h1), h1, beq_self_eq_true]
    · rw [if_neg h, decide_eq_false (by simp [h, h1])]
      simp [h1]
theorem gameOk_rng {n : Int} {g : Game} (h : gameOkB n g = true) : 0 ≤ g.f0 ∧ g.f0 < 8 ∧ 0 ≤ g.f1 ∧ g.f1 < 8 := by
  unfold gameOkB withinB at h
  simp only [Bool.and_eq_true, Bool.not_eq_true', decide_eq_false_iff_not, decide_eq_true_eq] at h
  omega
theorem iAwardW_eq (g : Game) (t n : Int) (hg : gameOkB n g = true) (ht : g.f0 = t ∨ g.f1 = t) : impl_awarded.f g.f0 g.f1 g.f2 g.f3 g.f4 (wrap64 (wrap64 (g.f0 + g.f1) - t)) = some ((award g (wrap64 (wrap64 (g.f0 + g.f1) - t))).f0, (award g (wrap64 (wrap64 (g.f0 + g.f1) - t))).f1, (award g (wrap64 (wrap64 (g.f0 + g.f1) - t))).f2, (award g (wrap64 (wrap64 (g.f0 + g.f1) - t))).f3, (award g (wrap64 (wrap64 (g.f0 + g.f1) - t))).f4) := by
  have hr := gameOk_rng hg
  refine iAward_eq g _ (gameOk_ne hg) ?_
  rw [wrap_id (g.f0 + g.f1) (by omega) (by omega), wrap_id _ (by omega) (by omega)]
  omega
theorem noName : ((some (⟨#[]⟩ : ByteArray)).bind fun t => some (t.toList == ([] : List UInt8))) = some (!false) := by kernel_rfl
theorem iRule_eq (r : Int) : (impl_RuleName.f r).bind (fun t => some (t.toList == ([] : List UInt8))) = some (!withinB r 1 2) := by
  unfold impl_RuleName.f
  by_cases h1 : r = 1
  · subst h1; kernel_rfl
  · by_cases h2 : r = 2
    · subst h2; kernel_rfl
    · have : withinB r 1 2 = false := by
        unfold withinB
        by_cases h4 : 1 ≤ r
        · rw [decide_eq_false (show ¬ r ≤ 2 by omega), Bool.and_false]
        · rw [decide_eq_false h4, Bool.false_and]
      rw [if_neg h1, if_neg h2, this]; exact noName
section
variable (F : List Team) (w d s : Int) (L : List Int) (ag : Bool) (fa ta : List Int) (G0 : List Game)
theorem iWithdraw_loop (team rule n : Int) (rest : List Game) : ∀ pre : List Game, pre.length + rest.length ≤ 1048576 → (∀ g ∈ rest, gameOkB n g = true) →
    Ev (fun k => impl_Withdraw.l0 k team rule ((pre ++ rest).length : Int) (pre.length : Int) F w d s L ag (pre ++ rest) fa ta) (F, w, d, s, L, ag, pre ++ rest.map (wdG team rule), fa, ta, true) := by
  induction rest with
  | nil =>
    intro pre hl hg
    exact Ev.step (f := fun _ => some (F, w, d, s, L, ag, pre ++ [], fa, ta, true)) (fun k => by rw [impl_Withdraw.l0, if_neg (by rw [List.append_nil]; omega)]) (Ev.now _)
  | cons g rest ih =>
    intro pre hl hg
    rw [List.length_cons] at hl
    have hlt : pre.length < (pre ++ g :: rest).length := by rw [List.length_append, List.length_cons]; omega
    have hget : (pre ++ g :: rest)[pre.length] = g := by rw [List.getElem_append_right (Nat.le_refl _)]; simp
    have hset : ∀ x, (pre ++ g :: rest).set pre.length x = (pre ++ [x]) ++ rest := by intro x; rw [List.set_append_right _ _ (Nat.le_refl _), Nat.sub_self, List.set_cons_zero, List.append_assoc]; rfl
    have hok := hg g (List.mem_cons_self ..)
    have key : ∀ x, wdG team rule g = x → Ev (fun k => impl_Withdraw.l0 k team rule ((pre ++ g :: rest).length : Int) ((pre.length + 1 : Nat) : Int) F w d s L ag ((pre ++ [x]) ++ rest) fa ta) (F, w, d, s, L, ag, pre ++ (g :: rest).map (wdG team rule), fa, ta, true) := by
      intro x hx
      have := ih (pre ++ [x]) (by rw [List.length_append, List.length_singleton]; omega) (fun y hy => hg y (List.mem_cons_of_mem _ hy))
      refine Ev.eq (Ev.congr (fun k => ?_) this) (by rw [List.map_cons, hx, List.append_assoc]; rfl)
      simp only [List.length_append, List.length_cons, List.length_nil, Nat.zero_add, Nat.add_assoc, Nat.add_comm 1]
    have hstay : pre ++ g :: rest = (pre ++ [g]) ++ rest := by rw [List.append_assoc]; rfl
    by_cases hp : g.f0 = team ∨ g.f1 = team
    · by_cases hr : rule = 1
      · refine Ev.step (fun k => ?_) (key ⟨g.f0, g.f1, 0, 0, 4⟩ (by unfold wdG; rw [if_pos hp, if_pos hr]))
        rw [impl_Withdraw.l0, if_pos (by omega), if_pos (by omega), if_pos (by omega), rdG_eq _ _ hlt, hget, iPlays_eq, Option.bind_some, decide_eq_true hp, if_pos rfl, if_pos hr, wrap_succ pre.length (by omega), Int.toNat_natCast, hset]
      · cases ho : openWB g with
        | true =>
          refine Ev.step (fun k => ?_) (key (award g (wrap64 (wrap64 (g.f0 + g.f1) - team))) (by unfold wdG; rw [if_pos hp, if_neg hr, ho, if_pos rfl]))
          rw [impl_Withdraw.l0, if_pos (by omega), if_pos (by omega), if_pos (by omega), rdG_eq _ _ hlt, hget, iPlays_eq, Option.bind_some, decide_eq_true hp, if_pos rfl, if_neg hr, iOpenW_eq, ho, Option.bind_some, if_pos rfl, iAwardW_eq g team n hok hp, Option.bind_some, wrap_succ pre.length (by omega), Int.toNat_natCast, hset]
        | false =>
          refine Ev.step (fun k => ?_) (key g (by unfold wdG; rw [if_pos hp, if_neg hr, ho, if_neg (by decide)]))
          rw [impl_Withdraw.l0, if_pos (by omega), if_pos (by omega), if_pos (by omega), rdG_eq _ _ hlt, hget, iPlays_eq, Option.bind_some, decide_eq_true hp, if_pos rfl, if_neg hr, iOpenW_eq, ho, Option.bind_some, if_neg (by decide), wrap_succ pre.length (by omega), ← hstay]
    · refine Ev.step (fun k => ?_) (key g (by unfold wdG; rw [if_neg hp]))
      rw [impl_Withdraw.l0, if_pos (by omega), if_pos (by omega), if_pos (by omega), rdG_eq _ _ hlt, hget, iPlays_eq, Option.bind_some, decide_eq_false hp, if_neg (by decide), wrap_succ pre.length (by omega), ← hstay]
theorem sWithdraw_loop (team rule : Int) (rest : List Game) : ∀ pre : List Game, pre.length + rest.length ≤ 1048576 →
    Ev (fun k => spec_Withdraw.l0 k team rule ((pre ++ rest).length : Int) (pre.length : Int) F w d s L ag (pre ++ rest) fa ta) (F, w, d, s, L, ag, pre ++ rest.map (wdG team rule), fa, ta, true) := by
  induction rest with
  | nil =>
    intro pre hl
    exact Ev.step (f := fun _ => some (F, w, d, s, L, ag, pre ++ [], fa, ta, true)) (fun k => by rw [spec_Withdraw.l0, if_neg (by rw [List.append_nil]; omega)]) (Ev.now _)
  | cons g rest ih =>
    intro pre hl
    rw [List.length_cons] at hl
    have hlt : pre.length < (pre ++ g :: rest).length := by rw [List.length_append, List.length_cons]; omega
    have hget : (pre ++ g :: rest)[pre.length] = g := by rw [List.getElem_append_right (Nat.le_refl _)]; simp
    have hset : ∀ x, (pre ++ g :: rest).set pre.length x = (pre ++ [x]) ++ rest := by intro x; rw [List.set_append_right _ _ (Nat.le_refl _), Nat.sub_self, List.set_cons_zero, List.append_assoc]; rfl
    have key : ∀ x, wdG team rule g = x → Ev (fun k => spec_Withdraw.l0 k team rule ((pre ++ g :: rest).length : Int) ((pre.length + 1 : Nat) : Int) F w d s L ag ((pre ++ [x]) ++ rest) fa ta) (F, w, d, s, L, ag, pre ++ (g :: rest).map (wdG team rule), fa, ta, true) := by
      intro x hx
      have := ih (pre ++ [x]) (by rw [List.length_append, List.length_singleton]; omega)
      refine Ev.eq (Ev.congr (fun k => ?_) this) (by rw [List.map_cons, hx, List.append_assoc]; rfl)
      simp only [List.length_append, List.length_cons, List.length_nil, Nat.zero_add, Nat.add_assoc, Nat.add_comm 1]
    have hstay : pre ++ g :: rest = (pre ++ [g]) ++ rest := by rw [List.append_assoc]; rfl
    have body : ∀ b : Bool, b = !decide (g.f0 = team ∨ g.f1 = team) → Ev (fun k => spec_Withdraw.j2 k team rule (pre.length : Int) ((pre ++ g :: rest).length : Int) (pre.length : Int) b F w d s L ag (pre ++ g :: rest) fa ta g.f0 g.f1 g.f2 g.f3 g.f4) (F, w, d, s, L, ag, pre ++ (g :: rest).map (wdG team rule), fa, ta, true) := by
      intro b hb
      by_cases hp : g.f0 = team ∨ g.f1 = team
      · rw [decide_eq_true hp] at hb
        subst hb
        by_cases hr : rule = 1
        · refine Ev.step (fun k => ?_) (key ⟨g.f0, g.f1, 0, 0, 4⟩ (by unfold wdG; rw [if_pos hp, if_pos hr]))
          rw [spec_Withdraw.j2, if_neg (by decide), if_pos hr, if_pos (by omega), if_pos (by omega), wrap_succ pre.length (by omega), Int.toNat_natCast, hset]
        · cases ho : openWB g with
          | true =>
            refine Ev.step (fun k => ?_) (key (award g (wrap64 (wrap64 (g.f0 + g.f1) - team))) (by unfold wdG; rw [if_pos hp, if_neg hr, ho, if_pos rfl]))
            rw [spec_Withdraw.j2, if_neg (by decide), if_neg hr, sOpenW_eq, ho, Option.bind_some, if_pos rfl, sAward_eq, Option.bind_some, if_pos (by omega), if_pos (by omega), wrap_succ pre.length (by omega), Int.toNat_natCast, hset]
          | false =>
            refine Ev.step (fun k => ?_) (key g (by unfold wdG; rw [if_pos hp, if_neg hr, ho, if_neg (by decide)]))
            rw [spec_Withdraw.j2, if_neg (by decide), if_neg hr, sOpenW_eq, ho, Option.bind_some, if_neg (by decide), wrap_succ pre.length (by omega), ← hstay]
      · rw [decide_eq_false hp] at hb
        subst hb
        refine Ev.step (fun k => ?_) (key g (by unfold wdG; rw [if_neg hp]))
        rw [spec_Withdraw.j2, if_pos (show (!false) = true from rfl), wrap_succ pre.length (by omega), ← hstay]
    by_cases h0 : g.f0 = team
    · refine Ev.step (fun k => ?_) (body false (by rw [decide_eq_true (Or.inl h0)]; rfl))
      rw [spec_Withdraw.l0, if_pos (by omega), if_pos (by omega), if_pos (by omega), rdG_eq _ _ hlt, hget, if_pos h0]
    · refine Ev.step (fun k => ?_) (body (g.f1 != team) (by by_cases h1 : g.f1 = team <;> simp [h0, h1]))
      rw [spec_Withdraw.l0, if_pos (by omega), if_pos (by omega), if_pos (by omega), rdG_eq _ _ hlt, hget, if_neg h0]
def withdrawn (team rule : Int) : List Team × Int × Int × Int × List Int × Bool × List Game × List Int × List Int × Bool :=
  if bookOkB F w d s L G0 fa ta && (withinB team 0 ((F.length : Int) - 1) && withinB rule 1 2) then (F, w, d, s, L, ag, G0.map (wdG team rule), fa, ta, true) else ([], 0, 0, 0, [], false, [], [], [], false)
theorem iWithdraw_ev (hn : ∀ t ∈ F, t.f0.size ≤ 1048576) (h1 : F.length ≤ 1048576) (h2 : L.length ≤ 1048576) (h3 : G0.length ≤ 1048576) (h4 : fa.length ≤ 1048576) (h5 : ta.length ≤ 1048576) (team rule : Int) :
    Ev (fun k => impl_Withdraw.f k F w d s L ag G0 fa ta team rule) (withdrawn F w d s L ag fa ta G0 team rule) := by
  unfold impl_Withdraw.f withdrawn
  have fals : Ev (fun k => impl_Withdraw.j0 k team rule true F w d s L ag G0 fa ta) ([], 0, 0, 0, [], false, [], [], [], false) := Ev.step (f := fun _ => some _) (fun k => by rw [impl_Withdraw.j0, if_pos rfl]) (Ev.now _)
  refine Ev.bind (Ev.from _ (bookOk_eq F w d s L ag G0 fa ta ⟨fun t ht => Nat.le_trans (hn t ht) (by decide), by omega, by omega⟩)) ?_
  cases hb : bookOkB F w d s L G0 fa ta with
  | false => exact Ev.congr (fun k => by rw [if_neg (by decide)]) fals
  | true =>
    refine Ev.congr (fun k => by rw [if_pos rfl, impl_isTeam.f, within_eq, wrap_id _ (by omega) (by omega), Option.bind_some, Option.bind_some]) ?_
    cases ht : withinB team 0 ((F.length : Int) - 1) with
    | false => exact Ev.congr (fun k => by rw [if_neg (by decide)]) fals
    | true =>
      have hr : ∀ k, ((impl_RuleName.f rule).bind fun t434 => (impl_Withdraw.j0 k team rule (t434.toList == ([] : List UInt8)) F w d s L ag G0 fa ta)) = impl_Withdraw.j0 k team rule (!withinB rule 1 2) F w d s L ag G0 fa ta := by
        intro k
        have := congrArg (fun o : Option Bool => o.bind fun b => impl_Withdraw.j0 k team rule b F w d s L ag G0 fa ta) (iRule_eq rule)
        simpa only [Option.bind_assoc, Option.bind_some] using this
      refine Ev.congr (fun k => by rw [if_pos rfl, hr]) ?_
      cases hw : withinB rule 1 2 with
      | false => exact fals
      | true =>
        refine Ev.step (fun k => by rw [impl_Withdraw.j0, if_neg (by decide), iCopied_eq F w d s L ag fa ta G0 h1 h2 h3 h4 h5, Option.bind_some]) ?_
        have hok : ∀ g ∈ G0, gameOkB (F.length : Int) g = true := by
          intro g h
          unfold bookOkB seasonOkB at hb
          simp only [Bool.and_eq_true] at hb
          exact seasonFrom_mem _ G0 [] hb.1.1.2.1 g h
        exact iWithdraw_loop F w d s L ag fa ta team rule _ G0 [] (by rw [List.length_nil]; omega) hok
theorem sWithdraw_ev (hn : ∀ t ∈ F, t.f0.size ≤ 1048576) (h1 : F.length ≤ 1048576) (h2 : L.length ≤ 1048576) (h3 : G0.length ≤ 1048576) (h4 : fa.length ≤ 1048576) (h5 : ta.length ≤ 1048576) (team rule : Int) :
    Ev (fun k => spec_Withdraw.f k F w d s L ag G0 fa ta team rule) (withdrawn F w d s L ag fa ta G0 team rule) := by
  unfold spec_Withdraw.f withdrawn
  have fals : Ev (fun k => spec_Withdraw.j0 k team rule true F w d s L ag G0 fa ta) ([], 0, 0, 0, [], false, [], [], [], false) := Ev.step (f := fun _ => some _) (fun k => by rw [spec_Withdraw.j0, if_pos rfl]) (Ev.now _)
  refine Ev.bind (sBookOk_ev F w d s L ag G0 fa ta (fun t ht => Nat.le_trans (hn t ht) (by decide))) ?_
  cases hb : bookOkB F w d s L G0 fa ta with
  | false => exact Ev.congr (fun k => by rw [if_neg (by decide)]) fals
  | true =>
    refine Ev.congr (fun k => by rw [if_pos rfl, l01In_eq, wrap_id _ (by omega) (by omega), Option.bind_some]) ?_
    cases ht : withinB team 0 ((F.length : Int) - 1) with
    | false => exact Ev.congr (fun k => by rw [if_neg (by decide)]) fals
    | true =>
      refine Ev.congr (fun k => by rw [if_pos rfl, l01In_eq, Option.bind_some]) ?_
      cases hw : withinB rule 1 2 with
      | false => exact fals
      | true =>
        refine Ev.step (fun k => by rw [Bool.not_true, spec_Withdraw.j0, if_neg (by decide), sCopy_eq F w d s L ag fa ta G0 h1 h2 h3 h4 h5, Option.bind_some]) ?_
        exact sWithdraw_loop F w d s L ag fa ta team rule G0 [] (by rw [List.length_nil]; omega)
end
end Go.Proofs.Ythfefanapneocaa.Q
namespace Go.Proofs.Ythfefanapneocaa.Pure
open Go.RowKit Go.Proofs.Ythfefanapneocaa.Q Go.Proofs.YthfefanapneocaaW.PrintWords Go.Proofs.YthfefanapneocaaW.PrintLast
theorem FnExactWithdraw (F : List TeamA) (w d s : Int) (L : List Int) (ag : Bool) (G : List GameA) (fa ta : List Int) (a1 a2 : Int) (ok0 : BkArg F w d s L G fa ta) (_ok1 : (Lit.int .i64 a1).wf = true) (_ok2 : (Lit.int .i64 a2).wf = true) :
    ∃ k, laws_FnExactWithdraw.f k F w d s L ag G fa ta a1 a2 = some true := by
  refine Ev.rounds ?_
  unfold laws_FnExactWithdraw.f
  obtain ⟨t, et, ht⟩ := szBook_arg F w d s L ag G fa ta ok0
  rcases ht with ht | ⟨ht, -, hs⟩
  · exact Ev.bind et (Ev.val fun k => by rw [if_pos ht])
  refine Ev.bind et (Ev.congr (fun k => by rw [if_neg (by omega)]) ?_)
  have hF : (F.map convT).length ≤ 1048576 := by rw [List.length_map]; exact hs.f
  have hG : (G.map convG).length ≤ 1048576 := by rw [List.length_map]; exact hs.g
  have hN : ∀ t ∈ F.map convT, t.f0.size ≤ 1048576 := by
    intro t h
    obtain ⟨x, hx, rfl⟩ := List.mem_map.mp h
    exact hs.n x hx
  have eA := toBook_ev F w d s L ag G fa ta hs.f hs.l hs.g hs.x hs.y
  have eS := sWithdraw_ev (F.map convT) w d s L ag fa ta (G.map convG) hN hF hs.l hG hs.x hs.y a1 a2
  have eI := iWithdraw_ev (F.map convT) w d s L ag fa ta (G.map convG) hN hF hs.l hG hs.x hs.y a1 a2
  have eB := eqBook_ev (F.map convT) w d s L ag (G.map convG) fa ta hF hs.l hG hs.x hs.y
  obtain ⟨F2, w2, d2, s2, L2, ag2, G2, fa2, ta2, b2, hr, z1, z2, z3, z4, z5⟩ : ∃ F2 w2 d2 s2 L2 ag2 G2 fa2 ta2 b2, withdrawn (F.map convT) w d s L ag fa ta (G.map convG) a1 a2 = (F2, w2, d2, s2, L2, ag2, G2, fa2, ta2, b2) ∧ F2.length ≤ 1048576 ∧ L2.length ≤ 1048576 ∧ G2.length ≤ 1048576 ∧ fa2.length ≤ 1048576 ∧ ta2.length ≤ 1048576 := by
    unfold withdrawn
    split
    · exact ⟨_, _, _, _, _, _, _, _, _, _, rfl, hF, hs.l, by rw [List.length_map]; exact hG, hs.x, hs.y⟩
    · exact ⟨_, _, _, _, _, _, _, _, _, _, rfl, Nat.zero_le _, Nat.zero_le _, Nat.zero_le _, Nat.zero_le _, Nat.zero_le _⟩
  rw [hr] at eS eI
  have eR := eqBook_ev F2 w2 d2 s2 L2 ag2 G2 fa2 ta2 z1 z2 z3 z4 z5
  refine Ev.bind eA (Ev.bind eS (Ev.bind eA (Ev.bind eI (Ev.bind eR ?_))))
  have eM := markBook_ev F2 w2 d2 s2 L2 ag2 G2 fa2 ta2 1 (by decide) (by decide) z1 z2 z3 z4 z5
  have eH := heldBook_ev w2 d2 s2 ag2 1 (by decide) (by decide) F2.length L2.length G2.length fa2.length ta2.length z1 z2 z3 z4 z5
  have hp := markBk_pos 1 (by decide) F2.length L2.length G2.length fa2.length ta2.length
  have eM1 := markBook_ev (F.map convT) w d s L ag (G.map convG) fa ta 1 (by decide) (by decide) hF hs.l hG hs.x hs.y
  have hp1 := markBk_pos 1 (by decide) (F.map convT).length L.length (G.map convG).length fa.length ta.length
  have ej2 : Ev (fun k => laws_FnExactWithdraw.j2 k (markBk 1 F2.length L2.length G2.length fa2.length ta2.length).1 false (markBk 1 F2.length L2.length G2.length fa2.length ta2.length).2.1 w2 d2 s2 (markBk 1 F2.length L2.length G2.length fa2.length ta2.length).2.2.1 ag2 (markBk 1 F2.length L2.length G2.length fa2.length ta2.length).2.2.2.1 (markBk 1 F2.length L2.length G2.length fa2.length ta2.length).2.2.2.2.1 (markBk 1 F2.length L2.length G2.length fa2.length ta2.length).2.2.2.2.2) true := by
    refine Ev.step (fun k => by rw [laws_FnExactWithdraw.j2, if_neg (by decide)]) (Ev.bind eH ?_)
    exact Ev.val fun k => by rw [if_neg (by omega), if_pos rfl]
  have ej1 : Ev (fun k => laws_FnExactWithdraw.j1 k a1 a2 b2 false F w d s L ag G fa ta F2 w2 d2 s2 L2 ag2 G2 fa2 ta2 F2 w2 d2 s2 L2 ag2 G2 fa2 ta2) true := by
    refine Ev.step (fun k => by rw [laws_FnExactWithdraw.j1, if_neg (by decide)]) (Ev.bind eM (Ev.bind eH ?_))
    refine Ev.congr (fun k => by rw [if_neg (by omega), if_pos rfl]) (Ev.bind eA (Ev.bind eI (Ev.bind eR ?_)))
    refine Ev.congr (fun k => by rw [if_pos rfl]) ?_
    simp only [bne_self_eq_false]
    exact ej2
  refine Ev.congr (fun k => by rw [if_pos rfl]) ?_
  simp only [bne_self_eq_false]
  refine Ev.step (fun k => by rw [laws_FnExactWithdraw.j0, if_neg (by decide)]) (Ev.bind eA (Ev.bind eB ?_))
  refine Ev.congr (fun k => by rw [if_pos rfl]) (Ev.bind eM1 ?_)
  refine Ev.congr (fun k => by rw [if_neg (by omega)]) (Ev.bind eR ?_)
  refine Ev.congr (fun k => by rw [if_pos rfl]) ?_
  simp only [bne_self_eq_false]
  exact ej1
end Go.Proofs.Ythfefanapneocaa.Pure
namespace Go.Proofs.Ythfefanapneocaa.fnExactWithdraw
open Go.ChangeShapes Go.WideShapes Go.ChangeAt Go.RowKit
open Go.ChangeMaps (open_string shut_string)
set_option linter.unusedVariables false
theorem own : ownKnob Try.prog.godebug = none := by kernel_rfl
theorem laidOut : laidOutB Try.prog = true := by kernel_rfl
set_option maxRecDepth 100000 in
set_option maxHeartbeats 4000000 in
theorem lifted (os : Os) (started : os.Started) (H : Type) (enc : TypeId × Value → H) :
    ReturnsInHanded {} Try.checked os 5 .any (Rows.fnExactWithdrawSpec.pre6 enc Try.prog Try.f5 Rows.fnExactWithdrawRow.domain false) (Rows.fnExactWithdrawSpec.post enc Try.prog Try.f5 false true false false) := by
  refine returnsInHanded_of_change_sized (C := Try.checked) own started (by kernel_rfl) Try.func5
    (ChangeSpec.witness6 (enc := enc) (C := Try.checked) false ⟨#[], #[.agg #[.slice none 0 0, .int .i64 0, .int .i64 0, .int .i64 0, .slice none 0 0, .bool false, .slice none 0 0, .slice none 0 0, .slice none 0 0], .int .i64 0, .int .i64 0], []⟩ 8 (by kernel_rfl) (by kernel_rfl) (by kernel_rfl) (by kernel_rfl)) ?_
  intro W base args ds gs before hval0 hW hcnd hsz0 _
  have hval : ∀ (j : Nat) t v, Try.f5.params[j]? = some t → args[j]? = some v → Value.okWide Try.prog W .any base t v := hval0
  have hW' := hW
  obtain ⟨p, q, hA0, hV, rfl, hfz, hnd⟩ := hW
  have hA : DataW.TrodAll enc Try.prog W 0 (fun _ => true) true Try.f5.params.toList args.toList ds p := hA0
  rw [Try.params5] at hA hval
  obtain ⟨v0, vs0, d0, ds0, p0, q0, hargs0, rfl, rfl, h0, r0⟩ := trodAll_cons hA
  obtain ⟨v1, vs1, d1, ds1, p1, q1, hargs1, rfl, rfl, h1, r1⟩ := trodAll_cons r0
  obtain ⟨v2, vs2, d2, ds2, p2, q2, hargs2, rfl, rfl, h2, r2⟩ := trodAll_cons r1
  obtain ⟨rfl, rfl, rfl⟩ := trodAll_nil r2
  obtain rfl : args = #[v0, v1, v2] := by cases args; simp_all
  obtain ⟨rfl, rfl⟩ := trodVars_none hV
  have k0 := h0; have lt0 : ∀ x ∈ p0, x.block < W.heap.size := by obtain ⟨m, hm⟩ := k0; exact DataW.trod_lt m _ _ _ hm
  have k1 := h1; have lt1 : ∀ x ∈ p1, x.block < W.heap.size := by obtain ⟨m, hm⟩ := k1; exact DataW.trod_lt m _ _ _ hm
  have k2 := h2; have lt2 : ∀ x ∈ p2, x.block < W.heap.size := by obtain ⟨m, hm⟩ := k2; exact DataW.trod_lt m _ _ _ hm
  obtain ⟨cs0, x0, rfl, hK0, ok0⟩ := Opens.trod_struct_val Try.underlying28 (hval 0 28 v0 rfl rfl) h0 (Opens.struct Try.underlying28 (by kernel_rfl) (Opens.cons 0 1 rfl (Opens.slice Try.underlying22 (Opens.iso (f := fun x : Q.S133 => (x.f0, x.f1, x.f2)) (fun x => ⟨x.1, x.2.1, x.2.2⟩) (fun _ => rfl) (Opens.struct Try.underlying133 (by kernel_rfl) (Opens.cons 0 1 rfl (Opens.string Try.underlying9) (by kernel_rfl) rfl (Opens.cons 1 2 rfl (Opens.int Try.underlying3) (by kernel_rfl) rfl (Opens.one 2 rfl (Opens.int Try.underlying3) (by kernel_rfl)))))) (by kernel_rfl) 133) (by kernel_rfl) rfl (Opens.cons 1 6 rfl (Opens.struct Try.underlying25 (by kernel_rfl) (Opens.cons 0 1 rfl (Opens.int Try.underlying3) (by kernel_rfl) rfl (Opens.cons 1 2 rfl (Opens.int Try.underlying3) (by kernel_rfl) rfl (Opens.cons 2 3 rfl (Opens.int Try.underlying3) (by kernel_rfl) rfl (Opens.cons 3 4 rfl (Opens.slice Try.underlying23 (Opens.int Try.underlying3) (by kernel_rfl) 3) (by kernel_rfl) rfl (Opens.one 4 rfl (Opens.bool Try.underlying4) (by kernel_rfl))))))) (by kernel_rfl) rfl (Opens.cons 6 7 rfl (Opens.slice Try.underlying26 (Opens.iso (f := fun x : Q.S147 => (x.f0, x.f1, x.f2, x.f3, x.f4)) (fun x => ⟨x.1, x.2.1, x.2.2.1, x.2.2.2.1, x.2.2.2.2⟩) (fun _ => rfl) (Opens.struct Try.underlying147 (by kernel_rfl) (Opens.cons 0 1 rfl (Opens.int Try.underlying3) (by kernel_rfl) rfl (Opens.cons 1 2 rfl (Opens.int Try.underlying3) (by kernel_rfl) rfl (Opens.cons 2 3 rfl (Opens.int Try.underlying3) (by kernel_rfl) rfl (Opens.cons 3 4 rfl (Opens.int Try.underlying3) (by kernel_rfl) rfl (Opens.one 4 rfl (Opens.int Try.underlying3) (by kernel_rfl)))))))) (by kernel_rfl) 147) (by kernel_rfl) rfl (Opens.cons 7 8 rfl (Opens.slice Try.underlying23 (Opens.int Try.underlying3) (by kernel_rfl) 3) (by kernel_rfl) rfl (Opens.one 8 rfl (Opens.slice Try.underlying23 (Opens.int Try.underlying3) (by kernel_rfl) 3) (by kernel_rfl)))))))
  obtain ⟨l0_0, ⟨a0_1_0, a0_1_1, a0_1_2, l0_1_3, a0_1_4⟩, l0_2, l0_3, l0_4⟩ := x0
  obtain ⟨_, _, hcs0, ⟨A0_0, c0_0, rfl, hl0_0, hC0_0⟩, ⟨_, _, rfl, ⟨_, _, rfl, rfl, ⟨_, _, rfl, rfl, ⟨_, _, rfl, rfl, ⟨_, _, rfl, ⟨A0_1_3, c0_1_3, rfl, hl0_1_3, hC0_1_3⟩, rfl⟩⟩⟩⟩, ⟨_, _, rfl, ⟨A0_2, c0_2, rfl, hl0_2, hC0_2⟩, ⟨_, _, rfl, ⟨A0_3, c0_3, rfl, hl0_3, hC0_3⟩, ⟨A0_4, c0_4, rfl, hl0_4, hC0_4⟩⟩⟩⟩⟩ := hK0
  obtain rfl : cs0 = #[.slice A0_0 l0_0.length c0_0, .int .i64 a0_1_0, .int .i64 a0_1_1, .int .i64 a0_1_2, .slice A0_1_3 l0_1_3.length c0_1_3, .bool a0_1_4, .slice A0_2 l0_2.length c0_2, .slice A0_3 l0_3.length c0_3, .slice A0_4 l0_4.length c0_4] := Array.toList_inj.mp hcs0
  obtain ⟨a1, rfl, rfl, rfl, ok1⟩ := open_int Try.underlying3 (hval 1 3 v1 rfl rfl) h1
  obtain ⟨a2, rfl, rfl, rfl, ok2⟩ := open_int Try.underlying3 (hval 2 3 v2 rfl rfl) h2
  clear hA0 hval0 hsz0
  obtain ⟨k, hk⟩ := Pure.FnExactWithdraw l0_0 a0_1_0 a0_1_1 a0_1_2 l0_1_3 a0_1_4 l0_2 l0_3 l0_4 a1 a2 ok0 ok1 ok2
  refine (Q.laws_FnExactWithdraw.calls k  A0_0 c0_0 l0_0 a0_1_0 a0_1_1 a0_1_2 A0_1_3 c0_1_3 l0_1_3 a0_1_4 A0_2 c0_2 l0_2 A0_3 c0_3 l0_3 A0_4 c0_4 l0_4 a1 a2 _ W hC0_0 hl0_0 hC0_1_3 hl0_1_3 hC0_2 hl0_2 hC0_3 hl0_3 hC0_4 hl0_4 hk).mono fun e W' ⟨he, bel⟩ => ?_
  subst he
  exact ⟨_, rfl, _, _, _, [], _, [], hW', trodAll_mk1 (shut_bool Try.underlying4 _), (trodAll_cons_mk (Below.trod laidOut (by kernel_rfl) (of_decide_eq_true (by kernel_rfl)) k0 bel lt0) (trodAll_cons_mk (Below.trod laidOut (by kernel_rfl) (of_decide_eq_true (by kernel_rfl)) k1 bel lt1) (trodAll_cons_mk (Below.trod laidOut (by kernel_rfl) (of_decide_eq_true (by kernel_rfl)) k2 bel lt2) trodAll_mk0))), rfl, bel.frame _, fun h => by cases h⟩
theorem over : Rows.fnExactWithdrawRow.holds Try.pinned (OpenSpec.ofChange Rows.fnExactWithdrawSpec) :=
  OpenClaim.holds_of_wide 5 Try.f5 rfl rfl rfl rfl rfl rfl rfl ⟨rfl, rfl, rfl, rfl, rfl⟩ rfl rfl rfl rfl rfl (by kernel_rfl) Try.func5 (by kernel_rfl)
    (of_decide_eq_true (by kernel_rfl)) (by unfold Func.isWrapper; first | (rw [if_pos (by decide +kernel)]; kernel_rfl) | (rw [if_neg (by decide +kernel)]; exact ⟨rfl, rfl⟩))
    (fun os started H enc _ => lifted os started H enc)
theorem proved : Rows.FnExactWithdrawSaid := over
end Go.Proofs.Ythfefanapneocaa.fnExactWithdraw
namespace Go.Proofs.Ythfefanapneocaa
theorem fnExactWithdraw_holds : Rows.FnExactWithdrawSaid := fnExactWithdraw.proved
end Go.Proofs.Ythfefanapneocaa
