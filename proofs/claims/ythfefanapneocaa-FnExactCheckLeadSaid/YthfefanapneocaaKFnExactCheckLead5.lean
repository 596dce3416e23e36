/- A part of the proof of FnExactCheckLead. No condition. -/
import Derived.Test.YthfefanapneocaaKFnExactCheckLead1
import Derived.Test.YthfefanapneocaaProg
import Derived.Below
import Derived.Deep.Draws
import Derived.Deep.AppendLies
import Derived.Maps.AppendAt
import Derived.OwnWalk
import Derived.Laws.BytesArg
import Derived.Laws.MakeOwn
import Derived.Laws.OwnMore
import Derived.Deep.OwnRows
import Derived.Tactics
import Derived.Lib.ConvBytes
import Derived.Laws.Slices
import Derived.WalkKit
import Derived.KernelRfl
import Derived.RowKit3
import Derived.Deep.LoopGhost
import Derived.Deep.QuietTactic
import Derived.BigQuiet
import Derived.WideLaws
import Derived.Deep.DeepCutAuto
import Derived.Deep.CutBlock
import Derived.Deep.RegionHeld3
import Derived.Laws.Rows
import Derived.Lib.AppendStr
import Derived.ArgAppend
import Derived.Laws.IdiomCopy
import Derived.OrdersHeld
import Derived.Laws.BitsLemmas
import Derived.RowKit
import Derived.WalkSpells
import Derived.Shelf.Strings.Builder1
import Derived.Shelf.Strings.Builder2
import Derived.Shelf.Small.Bits
import Derived.Shelf.Strconv.Itoa0
import Derived.Ground.Names2Prog
import Derived.Shelf.Slices.Clone
import Derived.Shelf.Slices.SearchI
import Derived.Ground.SlgnProg
import Derived.Shelf.SlicesE.Clone
import Derived.Lib.AppendIntMem
import Derived.Laws.StructEq
import Derived.Test.YthfefanapneocaaKFnExactCheckLead4
section
namespace Go.Proofs.Ythfefanapneocaa.Q
open Go.RowKit Go.Proofs.YthfefanapneocaaW.PrintWords Go.Proofs.YthfefanapneocaaW.PrintLast Go.Proofs.YthfefanapneocaaW.PrintMore
attribute [local go_sem] max2_int min2_int max_two min_two max_three min_three max_four min_four
set_option linter.unusedVariables false
set_option linter.unusedSimpArgs false
set_option maxRecDepth 100000
set_option maxHeartbeats 8000000
def hol_ (pp_ : S95 → Bool) (a b c d e : Int) : Option Bool := some (pp_ ⟨a, b, c, d, e⟩)
theorem hol_calls_ {pp_ : S95 → Bool} {g : Nat} {args lb : Array Value} {W : World} {a b c d e : Int} {t : Bool} (h : Calls Try.prog g (args ++ lb) W fun e' w' => e' = .returned (.bool (pp_ ⟨a, b, c, d, e⟩)) ∧ Below W.heap.size W w') (ht : hol_ pp_ a b c d e = some t) :
  Calls Try.prog g (args ++ lb) W fun e' w' => e' = .returned (.bool t) ∧ Below W.heap.size W w' := by
 obtain rfl := Option.some.inj ht
 exact h
mutual
def impl_tableOfG.l0 (pp_ : S95 → Bool) : Nat → List (S115) → List (S95) → Int → Int → Int → Int → Int → List Int → Bool → Option ((List (S115)))
 | 0, _, _, _, _, _, _, _, _, _ => none
 | k + 1, x9, x19, x20, x21, x1189000, x1189001, x1189002, x1189003, x1189004 => if x21 < x20 then (if 0 ≤ x21 then (if x21 < (x19.length : Int) then ((impl_GoalsOf.f ((rd_T95 x19 x21).f0) ((rd_T95 x19 x21).f1) ((rd_T95 x19 x21).f2) ((rd_T95 x19 x21).f3) ((rd_T95 x19 x21).f4)).bind fun bt1194 => (if bt1194.2.2 = true then ((hol_ pp_ ((rd_T95 x19 x21).f0) ((rd_T95 x19 x21).f1) ((rd_T95 x19 x21).f2) ((rd_T95 x19 x21).f3) ((rd_T95 x19 x21).f4)).bind fun t1197 => (impl_tableOfG.j1 pp_ k x9 bt1194.1 bt1194.2.1 x19 x20 x21 (!t1197) x1189000 x1189001 x1189002 x1189003 x1189004 ((rd_T95 x19 x21).f0) ((rd_T95 x19 x21).f1) ((rd_T95 x19 x21).f2) ((rd_T95 x19 x21).f3) ((rd_T95 x19 x21).f4))) else (impl_tableOfG.j1 pp_ k x9 bt1194.1 bt1194.2.1 x19 x20 x21 true x1189000 x1189001 x1189002 x1189003 x1189004 ((rd_T95 x19 x21).f0) ((rd_T95 x19 x21).f1) ((rd_T95 x19 x21).f2) ((rd_T95 x19 x21).f3) ((rd_T95 x19 x21).f4)))) else (none)) else (none)) else (some x9)
def impl_tableOfG.j1 (pp_ : S95 → Bool) : Nat → List (S115) → Int → Int → List (S95) → Int → Int → Bool → Int → Int → Int → List Int → Bool → Int → Int → Int → Int → Int → Option ((List (S115)))
 | 0, _, _, _, _, _, _, _, _, _, _, _, _, _, _, _, _, _ => none
 | k + 1, x9, x12, x13, x19, x20, x21, x38, x1189000, x1189001, x1189002, x1189003, x1189004, x1194000, x1194001, x1194002, x1194003, x1194004 => if x38 = true then (impl_tableOfG.l0 pp_ k x9 x19 x20 (wrap64 (x21 + 1)) x1189000 x1189001 x1189002 x1189003 x1189004) else (if 0 ≤ x1194000 then (if x1194000 < (x9.length : Int) then (if 0 ≤ x1194001 then (if x1194001 < (x9.length : Int) then ((some (x9.set (x1194000 : Int).toNat (⟨wrap64 (((rd_T115 x9 x1194000).f0) + 1), (rd_T115 x9 x1194000).f1, (rd_T115 x9 x1194000).f2, (rd_T115 x9 x1194000).f3, (rd_T115 x9 x1194000).f4, (rd_T115 x9 x1194000).f5, (rd_T115 x9 x1194000).f6⟩ : S115) : List (S115))).bind fun y1198 => ((some (y1198.set (x1194001 : Int).toNat (⟨wrap64 (((rd_T115 y1198 x1194001).f0) + 1), (rd_T115 y1198 x1194001).f1, (rd_T115 y1198 x1194001).f2, (rd_T115 y1198 x1194001).f3, (rd_T115 y1198 x1194001).f4, (rd_T115 y1198 x1194001).f5, (rd_T115 y1198 x1194001).f6⟩ : S115) : List (S115))).bind fun y1199 => ((some (y1199.set (x1194000 : Int).toNat (⟨(rd_T115 y1199 x1194000).f0, (rd_T115 y1199 x1194000).f1, (rd_T115 y1199 x1194000).f2, (rd_T115 y1199 x1194000).f3, wrap64 (((rd_T115 y1199 x1194000).f4) + x12), (rd_T115 y1199 x1194000).f5, (rd_T115 y1199 x1194000).f6⟩ : S115) : List (S115))).bind fun y1200 => ((some (y1200.set (x1194000 : Int).toNat (⟨(rd_T115 y1200 x1194000).f0, (rd_T115 y1200 x1194000).f1, (rd_T115 y1200 x1194000).f2, (rd_T115 y1200 x1194000).f3, (rd_T115 y1200 x1194000).f4, wrap64 (((rd_T115 y1200 x1194000).f5) + x13), (rd_T115 y1200 x1194000).f6⟩ : S115) : List (S115))).bind fun y1201 => ((some (y1201.set (x1194001 : Int).toNat (⟨(rd_T115 y1201 x1194001).f0, (rd_T115 y1201 x1194001).f1, (rd_T115 y1201 x1194001).f2, (rd_T115 y1201 x1194001).f3, wrap64 (((rd_T115 y1201 x1194001).f4) + x13), (rd_T115 y1201 x1194001).f5, (rd_T115 y1201 x1194001).f6⟩ : S115) : List (S115))).bind fun y1202 => ((some (y1202.set (x1194001 : Int).toNat (⟨(rd_T115 y1202 x1194001).f0, (rd_T115 y1202 x1194001).f1, (rd_T115 y1202 x1194001).f2, (rd_T115 y1202 x1194001).f3, (rd_T115 y1202 x1194001).f4, wrap64 (((rd_T115 y1202 x1194001).f5) + x12), (rd_T115 y1202 x1194001).f6⟩ : S115) : List (S115))).bind fun y1203 => (if x12 > x13 then ((some (y1203.set (x1194000 : Int).toNat (⟨(rd_T115 y1203 x1194000).f0, wrap64 (((rd_T115 y1203 x1194000).f1) + 1), (rd_T115 y1203 x1194000).f2, (rd_T115 y1203 x1194000).f3, (rd_T115 y1203 x1194000).f4, (rd_T115 y1203 x1194000).f5, (rd_T115 y1203 x1194000).f6⟩ : S115) : List (S115))).bind fun y1204 => ((some (y1204.set (x1194001 : Int).toNat (⟨(rd_T115 y1204 x1194001).f0, (rd_T115 y1204 x1194001).f1, (rd_T115 y1204 x1194001).f2, wrap64 (((rd_T115 y1204 x1194001).f3) + 1), (rd_T115 y1204 x1194001).f4, (rd_T115 y1204 x1194001).f5, (rd_T115 y1204 x1194001).f6⟩ : S115) : List (S115))).bind fun y1205 => ((some (y1205.set (x1194000 : Int).toNat (⟨(rd_T115 y1205 x1194000).f0, (rd_T115 y1205 x1194000).f1, (rd_T115 y1205 x1194000).f2, (rd_T115 y1205 x1194000).f3, (rd_T115 y1205 x1194000).f4, (rd_T115 y1205 x1194000).f5, wrap64 (((rd_T115 y1205 x1194000).f6) + x1189000)⟩ : S115) : List (S115))).bind fun y1206 => (impl_tableOfG.l0 pp_ k (y1206.set (x1194001 : Int).toNat (⟨(rd_T115 y1206 x1194001).f0, (rd_T115 y1206 x1194001).f1, (rd_T115 y1206 x1194001).f2, (rd_T115 y1206 x1194001).f3, (rd_T115 y1206 x1194001).f4, (rd_T115 y1206 x1194001).f5, wrap64 (((rd_T115 y1206 x1194001).f6) + x1189002)⟩ : S115)) x19 x20 (wrap64 (x21 + 1)) x1189000 x1189001 x1189002 x1189003 x1189004)))) else (if x12 < x13 then ((some (y1203.set (x1194001 : Int).toNat (⟨(rd_T115 y1203 x1194001).f0, wrap64 (((rd_T115 y1203 x1194001).f1) + 1), (rd_T115 y1203 x1194001).f2, (rd_T115 y1203 x1194001).f3, (rd_T115 y1203 x1194001).f4, (rd_T115 y1203 x1194001).f5, (rd_T115 y1203 x1194001).f6⟩ : S115) : List (S115))).bind fun y1208 => ((some (y1208.set (x1194000 : Int).toNat (⟨(rd_T115 y1208 x1194000).f0, (rd_T115 y1208 x1194000).f1, (rd_T115 y1208 x1194000).f2, wrap64 (((rd_T115 y1208 x1194000).f3) + 1), (rd_T115 y1208 x1194000).f4, (rd_T115 y1208 x1194000).f5, (rd_T115 y1208 x1194000).f6⟩ : S115) : List (S115))).bind fun y1209 => ((some (y1209.set (x1194001 : Int).toNat (⟨(rd_T115 y1209 x1194001).f0, (rd_T115 y1209 x1194001).f1, (rd_T115 y1209 x1194001).f2, (rd_T115 y1209 x1194001).f3, (rd_T115 y1209 x1194001).f4, (rd_T115 y1209 x1194001).f5, wrap64 (((rd_T115 y1209 x1194001).f6) + x1189000)⟩ : S115) : List (S115))).bind fun y1210 => (impl_tableOfG.l0 pp_ k (y1210.set (x1194000 : Int).toNat (⟨(rd_T115 y1210 x1194000).f0, (rd_T115 y1210 x1194000).f1, (rd_T115 y1210 x1194000).f2, (rd_T115 y1210 x1194000).f3, (rd_T115 y1210 x1194000).f4, (rd_T115 y1210 x1194000).f5, wrap64 (((rd_T115 y1210 x1194000).f6) + x1189002)⟩ : S115)) x19 x20 (wrap64 (x21 + 1)) x1189000 x1189001 x1189002 x1189003 x1189004)))) else ((some (y1203.set (x1194000 : Int).toNat (⟨(rd_T115 y1203 x1194000).f0, (rd_T115 y1203 x1194000).f1, wrap64 (((rd_T115 y1203 x1194000).f2) + 1), (rd_T115 y1203 x1194000).f3, (rd_T115 y1203 x1194000).f4, (rd_T115 y1203 x1194000).f5, (rd_T115 y1203 x1194000).f6⟩ : S115) : List (S115))).bind fun y1212 => ((some (y1212.set (x1194001 : Int).toNat (⟨(rd_T115 y1212 x1194001).f0, (rd_T115 y1212 x1194001).f1, wrap64 (((rd_T115 y1212 x1194001).f2) + 1), (rd_T115 y1212 x1194001).f3, (rd_T115 y1212 x1194001).f4, (rd_T115 y1212 x1194001).f5, (rd_T115 y1212 x1194001).f6⟩ : S115) : List (S115))).bind fun y1213 => ((some (y1213.set (x1194000 : Int).toNat (⟨(rd_T115 y1213 x1194000).f0, (rd_T115 y1213 x1194000).f1, (rd_T115 y1213 x1194000).f2, (rd_T115 y1213 x1194000).f3, (rd_T115 y1213 x1194000).f4, (rd_T115 y1213 x1194000).f5, wrap64 (((rd_T115 y1213 x1194000).f6) + x1189001)⟩ : S115) : List (S115))).bind fun y1214 => (impl_tableOfG.l0 pp_ k (y1214.set (x1194001 : Int).toNat (⟨(rd_T115 y1214 x1194001).f0, (rd_T115 y1214 x1194001).f1, (rd_T115 y1214 x1194001).f2, (rd_T115 y1214 x1194001).f3, (rd_T115 y1214 x1194001).f4, (rd_T115 y1214 x1194001).f5, wrap64 (((rd_T115 y1214 x1194001).f6) + x1189001)⟩ : S115)) x19 x20 (wrap64 (x21 + 1)) x1189000 x1189001 x1189002 x1189003 x1189004)))))))))))) else (none)) else (none)) else (none)) else (none))
end
def impl_tableOfG.f (pp_ : S95 → Bool) (k : Nat) (a0_0 : Int) (a0_1 : Int) (a0_2 : Int) (l0_3 : List Int) (a0_4 : Bool) (a1 : Int) (l2 : List (S95)) : Option ((List (S115))) := if 0 ≤ a1 then (if (a1 : Int).toNat ≤ 5026338869833 then (impl_tableOfG.l0 pp_ k (List.replicate (a1 : Int).toNat z115) l2 (l2.length : Int) 0 a0_0 a0_1 a0_2 l0_3 a0_4) else (none)) else (none)
def impl_tableOfG.T7 : Bool × List (List Nat × List Nat) := (true, [([], []), ([], []), ([1], [1]), ([0, 2], [0, 2]), ([], []), ([], []), ([5], [5]), ([4, 6], [4, 6]), ([3, 0, 1, 2, 3], [3]), ([7, 8, 0, 1, 2, 3, 4, 5, 6, 7, 8], [7])])
def impl_tableOfG.B7 : List Nat := [0, 0, 2, 7, 0, 0, 32, 112, 15, 511]
theorem impl_tableOfG.tab7 : rtab .any (opsOf Try.f135 7) = impl_tableOfG.T7 := by kernel_rfl
theorem impl_tableOfG.bits7 : waitsOk impl_tableOfG.T7.2 impl_tableOfG.B7 = true := by kernel_rfl
def impl_tableOfG.T16 : Bool × List (List Nat × List Nat) := (true, [([], []), ([0], [0]), ([1], [1]), ([2], [2]), ([], []), ([4], [4]), ([3, 5], [3, 5]), ([0, 0, 1, 2, 3, 4, 5, 6], [0]), ([7, 0, 1, 2, 3, 4, 5, 6], [7]), ([8, 6, 0, 1, 2, 3, 4, 5, 6], [6, 8])])
def impl_tableOfG.B16 : List Nat := [0, 1, 3, 7, 0, 16, 63, 127, 255, 511]
theorem impl_tableOfG.tab16 : rtab .any (opsOf Try.f135 16) = impl_tableOfG.T16 := by kernel_rfl
theorem impl_tableOfG.bits16 : waitsOk impl_tableOfG.T16.2 impl_tableOfG.B16 = true := by kernel_rfl
def impl_tableOfG.T17 : Bool × List (List Nat × List Nat) := (true, [([], []), ([0], [0]), ([1], [1]), ([2], [2]), ([], []), ([4], [4]), ([3, 5], [3, 5]), ([0, 0, 1, 2, 3, 4, 5, 6], [0]), ([7, 0, 1, 2, 3, 4, 5, 6], [7]), ([8, 6, 0, 1, 2, 3, 4, 5, 6], [6, 8])])
def impl_tableOfG.B17 : List Nat := [0, 1, 3, 7, 0, 16, 63, 127, 255, 511]
theorem impl_tableOfG.tab17 : rtab .any (opsOf Try.f135 17) = impl_tableOfG.T17 := by kernel_rfl
theorem impl_tableOfG.bits17 : waitsOk impl_tableOfG.T17.2 impl_tableOfG.B17 = true := by kernel_rfl
def impl_tableOfG.T21 : Bool × List (List Nat × List Nat) := (true, [([], []), ([0], [0]), ([1], [1]), ([2], [2]), ([], []), ([4], [4]), ([3, 5], [3, 5]), ([0, 0, 1, 2, 3, 4, 5, 6], [0]), ([7, 0, 1, 2, 3, 4, 5, 6], [7]), ([8, 6, 0, 1, 2, 3, 4, 5, 6], [6, 8])])
def impl_tableOfG.B21 : List Nat := [0, 1, 3, 7, 0, 16, 63, 127, 255, 511]
theorem impl_tableOfG.tab21 : rtab .any (opsOf Try.f135 21) = impl_tableOfG.T21 := by kernel_rfl
theorem impl_tableOfG.bits21 : waitsOk impl_tableOfG.T21.2 impl_tableOfG.B21 = true := by kernel_rfl
def impl_tableOfG.T22 : Bool × List (List Nat × List Nat) := (true, [([], []), ([0], [0]), ([1], [1]), ([2], [2]), ([], []), ([4], [4]), ([3, 5], [3, 5]), ([0, 0, 1, 2, 3, 4, 5, 6], [0]), ([7, 0, 1, 2, 3, 4, 5, 6], [7]), ([8, 6, 0, 1, 2, 3, 4, 5, 6], [6, 8])])
def impl_tableOfG.B22 : List Nat := [0, 1, 3, 7, 0, 16, 63, 127, 255, 511]
theorem impl_tableOfG.tab22 : rtab .any (opsOf Try.f135 22) = impl_tableOfG.T22 := by kernel_rfl
theorem impl_tableOfG.bits22 : waitsOk impl_tableOfG.T22.2 impl_tableOfG.B22 = true := by kernel_rfl
def impl_tableOfG.T26 : Bool × List (List Nat × List Nat) := (true, [([], []), ([0], [0]), ([1], [1]), ([2], [2]), ([], []), ([4], [4]), ([3, 5], [3, 5]), ([0, 0, 1, 2, 3, 4, 5, 6], [0]), ([7, 0, 1, 2, 3, 4, 5, 6], [7]), ([8, 6, 0, 1, 2, 3, 4, 5, 6], [6, 8])])
def impl_tableOfG.B26 : List Nat := [0, 1, 3, 7, 0, 16, 63, 127, 255, 511]
theorem impl_tableOfG.tab26 : rtab .any (opsOf Try.f135 26) = impl_tableOfG.T26 := by kernel_rfl
theorem impl_tableOfG.bits26 : waitsOk impl_tableOfG.T26.2 impl_tableOfG.B26 = true := by kernel_rfl
def impl_tableOfG.T27 : Bool × List (List Nat × List Nat) := (true, [([], []), ([0], [0]), ([1], [1]), ([2], [2]), ([], []), ([4], [4]), ([3, 5], [3, 5]), ([0, 0, 1, 2, 3, 4, 5, 6], [0]), ([7, 0, 1, 2, 3, 4, 5, 6], [7]), ([8, 6, 0, 1, 2, 3, 4, 5, 6], [6, 8])])
def impl_tableOfG.B27 : List Nat := [0, 1, 3, 7, 0, 16, 63, 127, 255, 511]
theorem impl_tableOfG.tab27 : rtab .any (opsOf Try.f135 27) = impl_tableOfG.T27 := by kernel_rfl
theorem impl_tableOfG.bits27 : waitsOk impl_tableOfG.T27.2 impl_tableOfG.B27 = true := by kernel_rfl
theorem impl_tableOfG.calls (pp_ : S95 → Bool) (g_ : Nat) (lb_ : Array Value) (eg_ : ∀ args w, (callFunc g_ args).run Try.prog w = .ok (.enter g_ args) w) (k : Nat) (a0_0 : Int) (a0_1 : Int) (a0_2 : Int) (A0_3 : Option Addr) (c0_3 : Nat) (l0_3 : List Int) (a0_4 : Bool) (a1 : Int) (A2 : Option Addr) (c2 : Nat) (l2 : List (S95)) (r : List (S115)) (w : World) (hr0_3 : Kd.C (Kd.int .i64) w A0_3 l0_3.length l0_3) (hc0_3 : l0_3.length ≤ c0_3) (hr2 : Kd.C k95 w A2 l2.length l2) (hc2 : l2.length ≤ c2) (hp_ : ∀ (W : World) (x : S95), Below w.heap.size w W → Calls Try.prog g_ (#[.agg #[.int .i64 x.f0, .int .i64 x.f1, .int .i64 x.f2, .int .i64 x.f3, .int .i64 x.f4]] ++ lb_) W fun e w' => e = .returned (.bool (pp_ x)) ∧ Below W.heap.size W w') (h : impl_tableOfG.f pp_ k a0_0 a0_1 a0_2 l0_3 a0_4 a1 l2 = some r) :
  Calls Try.prog 135 #[.agg #[.int .i64 a0_0, .int .i64 a0_1, .int .i64 a0_2, .slice A0_3 l0_3.length c0_3, .bool a0_4], .int .i64 a1, .slice A2 l2.length c2, .func (.func g_) #[] lb_] w fun e w' => ∃ v0_ : Value, e = .returned (v0_) ∧ Kd.R k115 115 w' w.heap.size (fun _ => True) v0_ r ∧ Below w.heap.size w w' := by
 have EG_ := dk eg_
 have HP_ := dk hp_
 clear eg_ hp_
 have hu33 := Try.underlying33
 have hu95 := Try.underlying95
 have HR0_3 := dk hr0_3
 have HC0_3 := dk hc0_3
 clear hr0_3 hc0_3
 have HR2 := dk hr2
 have HC2 := dk hc2
 clear hr2 hc2
 have HB := hb0 w
 have H : (if 0 ≤ a1 then (if (a1 : Int).toNat ≤ 5026338869833 then (impl_tableOfG.l0 pp_ k (List.replicate (a1 : Int).toNat z115) l2 (l2.length : Int) 0 a0_0 a0_1 a0_2 l0_3 a0_4) else (none)) else (none)) = some r := h
 clear h
 by_cases c4 : 0 ≤ a1
 ·rw [if_pos c4] at H
  have c4b0 := eq_true c4
  have c4b1 := decide_eq_true c4
  clear c4
  by_cases c5 : (a1 : Int).toNat ≤ 5026338869833
  ·rw [if_pos c5] at H
   have c5b0 := eq_true c5
   have c5b1 := decide_eq_true c5
   clear c5
   obtain ⟨y1189, hy1189⟩ : ∃ y_ : List (S115), y_ = (List.replicate (a1 : Int).toNat z115) := ⟨_, rfl⟩
   (first | (rw [Option.bind_some] at H; rw [← hy1189] at H) | rw [← hy1189] at H)
   have Ny1189 := dk hy1189
   clear hy1189
   have H' := dk H
   clear H
   go_enter Try.func135, Try.ntmps135
   go_wp2_with (first | ((with_reducible refine gdst_ 4 rfl ?_); refine bx (N := 4) (cs := #[.int .i64 a0_0, .int .i64 a0_1, .int .i64 a0_2, .slice A0_3 l0_3.length c0_3, .bool a0_4]) (t := 33) ?_; intro gb1188 hg w6 hbox hb; have BK1188 := dk (hbox); have GW1188 := gs hg HB; have GE1188 := gs hg HB; replace HB := hs_ HB hb; clear hb hbox hg) | ((with_reducible refine gdst_ 18 rfl ?_); refine Kd.R_make k115 _ 115 rfl (N := 18) rfl 112 _ _ rfl a1 rfl rfl Try.underlying112 (.agg #[(.int .i64 0), (.int .i64 0), (.int .i64 0), (.int .i64 0), (.int .i64 0), (.int .i64 0), (.int .i64 0)]) 56 info115 rfl (by decide) (by omega) z115 (ok := fun _ => True) (okp := fun _ => True) (k115_mkM _ _ _ z115 ) (fun _ hk => hk) trivial (oa) (Nat.le_trans (Nat.mul_le_mul_right _ (oa : a1.toNat ≤ 5026338869833)) (by omega)) (Below.refl _ _) (Nat.le_refl _) ?_; intro v1190 w7 ho8 hb hg_ hnew_; clear hg_ hnew_; (first | rw [← Ny1189.out] at ho8 | (simp only [Int.reduceToNat] at ho8; rw [← Ny1189.out] at ho8)); have HO1191 := kl ho8 HB; replace BK1188 := kb BK1188 hb; replace HB := hs_ HB hb; clear hb ho8))
   go_loopg [21] k (fun kq v21 w' => ∃ (x9_1 : List (S115)) (x21_1 : Int), v21 = .int .i64 x21_1 ∧ Aside0 (impl_tableOfG.l0 pp_ kq x9_1 l2 (l2.length : Int) x21_1 a0_0 a0_1 a0_2 l0_3 a0_4 = some r) ∧ Aside0 (kq ≤ k) ∧ Aside0 (Kd.R k115 115 w' w.heap.size (fun _ => True) v1190 x9_1) ∧ Aside0 (w'.heap[gb1188]? = some (.cells #[.int .i64 a0_0, .int .i64 a0_1, .int .i64 a0_2, (.slice A0_3 l0_3.length c0_3), .bool a0_4] 33 (0, 0))) ∧ Aside0 (Below w.heap.size w w'))
   case atStart => exact ⟨(y1189), (0), e2_, H', ⟨Nat.le_refl _⟩, ⟨rr HO1191⟩, ⟨bk BK1188⟩, ⟨bb HB⟩⟩
   case round =>
    clear H'
    obtain ⟨x9_1, x21_1, rfl, HA, HK1, HO_9, BK1188, HB⟩ := hrel
    cases gk with
    | zero => exact absurd HA.out (by simp [impl_tableOfG.l0])
    | succ k1 =>
     have H := HA.out
     clear HA
     simp only [impl_tableOfG.l0] at H
     by_cases c9 : x21_1 < (l2.length : Int)
     ·rw [if_pos c9] at H
      have c9b0 := decide_eq_true c9
      clear c9
      by_cases c10 : 0 ≤ x21_1
      ·rw [if_pos c10] at H
       have c10b0 := decide_eq_true c10
       clear c10
       by_cases c11 : x21_1 < (l2.length : Int)
       ·rw [if_pos c11] at H
        have c11b0 := decide_eq_true c11
        clear c11
        replace H := Option.bind_eq_some_iff.mp H
        obtain ⟨⟨t1194, t1195, t1196⟩, A120, H⟩ := H
        try dsimp only at H
        have A12 := dk A120
        clear A120
        have HC13 := dk H
        clear H
        have p1192 : 0 ≤ (x21_1 : Int) := oa
        have q1192 : x21_1 < (l2.length : Int) := oa
        obtain ⟨ad1192, e1192, hx1192_0, hx1192_1, hx1192_2, hx1192_3, hx1192_4⟩ := at_T95 HR2.out x21_1 p1192 q1192
        cases e1192
        replace hx1192_0 := hc HB hx1192_0
        replace hx1192_1 := hc HB hx1192_1
        replace hx1192_2 := hc HB hx1192_2
        replace hx1192_3 := hc HB hx1192_3
        replace hx1192_4 := hc HB hx1192_4
        replace p1192 := eq_true p1192
        replace q1192 := eq_true q1192
        go_upto_region 6 with (first | ((with_reducible refine gdst_ 11 rfl ?_); refine bx (N := 11) (cs := #[.int .i64 0, .int .i64 0, .int .i64 0, .int .i64 0, .int .i64 0]) (t := 95) ?_; intro gb1193 hg w14 hbox hb; replace HO_9 := kr HO_9 hb; have BK1193 := dk (hbox); have GW1193 := gs hg HB; have GE1193 := gs hg HB; replace HB := hs_ HB hb; have NB1188_1193 := gn hg BK1188; have NB1193_1188 := gm hg BK1188; replace BK1188 := kb BK1188 hb; clear hb hbox hg; have hnb15 := NB1193_1188.out; have hnc15 := NB1188_1193.out; have ⟨z16_0, z16_1, z16_2, z16_3, z16_4, v16_0, v16_1, v16_2, v16_3, v16_4⟩ := rz5 BK1193) | ((with_reducible refine gcallee_ 171 rfl ?_); refine gl (some 27) Try.func171 #[.agg #[.int .i64 ((rd_T95 l2 x21_1).f0), .int .i64 ((rd_T95 l2 x21_1).f1), .int .i64 ((rd_T95 l2 x21_1).f2), .int .i64 ((rd_T95 l2 x21_1).f3), .int .i64 ((rd_T95 l2 x21_1).f4)]] ?_; (with_reducible refine (impl_GoalsOf.calls ((rd_T95 l2 x21_1).f0) ((rd_T95 l2 x21_1).f1) ((rd_T95 l2 x21_1).f2) ((rd_T95 l2 x21_1).f3) ((rd_T95 l2 x21_1).f4) t1194 t1195 t1196 _ A12.out).mono ?_); rintro e w17 ⟨rfl, hb⟩; refine ⟨_, rfl, ?_⟩; replace HO_9 := kf HO_9 BK1193 hb; replace BK1188 := dk (blk_below (bf NB1188_1193.out BK1188) hb); replace BK1193 := dk (blk_below (g := gb1193) (o := .cells #[.int .i64 ((rd_T95 l2 x21_1).f0), .int .i64 ((rd_T95 l2 x21_1).f1), .int .i64 ((rd_T95 l2 x21_1).f2), .int .i64 ((rd_T95 l2 x21_1).f3), .int .i64 ((rd_T95 l2 x21_1).f4)] 95 (0, 0)) (bp BK1193) hb); replace HB := hs_ HB hb))
        (try simp only [Act.put, List.setIfInBounds_toArray, List.set_cons_zero, List.set_cons_succ])
        go_cut [38] (fun v38 wc => ∃ (kq : Nat) (x38_12 : Bool), v38 = .bool x38_12 ∧ Aside0 (impl_tableOfG.j1 pp_ kq x9_1 t1194 t1195 l2 (l2.length : Int) x21_1 x38_12 a0_0 a0_1 a0_2 l0_3 a0_4 ((rd_T95 l2 x21_1).f0) ((rd_T95 l2 x21_1).f1) ((rd_T95 l2 x21_1).f2) ((rd_T95 l2 x21_1).f3) ((rd_T95 l2 x21_1).f4) = some r) ∧ Aside0 (kq ≤ k1) ∧ Aside0 (Kd.R k115 115 wc w.heap.size (fun _ => True) v1190 x9_1) ∧ Aside0 (wc.heap[gb1188]? = some (.cells #[.int .i64 a0_0, .int .i64 a0_1, .int .i64 a0_2, (.slice A0_3 l0_3.length c0_3), .bool a0_4] 33 (0, 0))) ∧ Aside0 (wc.heap[gb1193]? = some (.cells #[.int .i64 ((rd_T95 l2 x21_1).f0), .int .i64 ((rd_T95 l2 x21_1).f1), .int .i64 ((rd_T95 l2 x21_1).f2), .int .i64 ((rd_T95 l2 x21_1).f3), .int .i64 ((rd_T95 l2 x21_1).f4)] 95 (0, 0))) ∧ Aside0 (Below w.heap.size w wc))
        case first =>
         have H := HC13.out
         clear HC13
         by_cases c18 : t1196 = true
         ·subst c18
          rw [if_pos rfl] at H
          replace H := Option.bind_eq_some_iff.mp H
          obtain ⟨t1197, A190, H⟩ := H
          try dsimp only at H
          have A19 := dk A190
          clear A190
          have H' := dk H
          clear H
          have hnb20 := NB1193_1188.out
          have hnc20 := NB1188_1193.out
          have ⟨z21_0, z21_1, z21_2, z21_3, z21_4, v21_0, v21_1, v21_2, v21_3, v21_4⟩ := rz5 BK1193
          have eg_ := EG_.out
          go_wp2_with fail
          clear eg_
          refine (hol_calls_ (HP_.out _ ⟨(rd_T95 l2 x21_1).f0, (rd_T95 l2 x21_1).f1, (rd_T95 l2 x21_1).f2, (rd_T95 l2 x21_1).f3, (rd_T95 l2 x21_1).f4⟩ (bb HB)) A19.out).mono ?_
          rintro e w22 ⟨rfl, hb⟩
          replace HO_9 := kr HO_9 hb
          replace BK1188 := kb BK1188 hb
          replace BK1193 := kb BK1193 hb
          replace HB := hs_ HB hb
          try go_wp2_with fail
          go_meet
          case rel => exact ⟨_, (!t1197), e2_, H', ⟨by have := HK1.out; first | omega | exact Nat.le_refl _⟩, ⟨rr HO_9⟩, ⟨bk BK1188⟩, ⟨bk BK1193⟩, ⟨bb HB⟩⟩
         ·replace c18 := Bool.eq_false_iff.mpr c18
          subst c18
          rw [if_neg (show ¬ (false = true) by decide)] at H
          have H' := dk H
          clear H
          go_wp2
          go_meet
          case rel => exact ⟨_, (true), e2_, H', ⟨by have := HK1.out; first | omega | exact Nat.le_refl _⟩, ⟨rr HO_9⟩, ⟨bk BK1188⟩, ⟨bk BK1193⟩, ⟨bb HB⟩⟩
        case rest =>
         clear HC13
         obtain ⟨kq, x38_12, rfl, HA, HJ12, HO_9, BK1188, BK1193, HB⟩ := hcut
         cases kq with
         | zero => exact absurd HA.out (by simp [impl_tableOfG.j1])
         | succ kj12 =>
          have H := HA.out
          clear HA
          simp only [impl_tableOfG.j1] at H
          by_cases c23 : x38_12 = true
          ·subst c23
           rw [if_pos rfl] at H
           have H' := dk H
           clear H
           go_wp2
           go_roundg kj12
           case measure => have := HK1.out; have := HJ12.out; omega
           case rel => exact ⟨(x9_1), (wrap64 (x21_1 + 1)), e2_, H', ⟨by have := HK1.out; have := HJ12.out; omega⟩, ⟨rr HO_9⟩, ⟨bk BK1188⟩, ⟨bb HB⟩⟩
          ·replace c23 := Bool.eq_false_iff.mpr c23
           subst c23
           rw [if_neg (show ¬ (false = true) by decide)] at H
           by_cases c24 : 0 ≤ ((rd_T95 l2 x21_1).f0)
           ·rw [if_pos c24] at H
            have c24b0 := decide_eq_true c24
            clear c24
            by_cases c25 : ((rd_T95 l2 x21_1).f0) < (x9_1.length : Int)
            ·rw [if_pos c25] at H
             have c25b0 := decide_eq_true c25
             clear c25
             by_cases c27 : 0 ≤ ((rd_T95 l2 x21_1).f1)
             ·rw [if_pos c27] at H
              have c27b0 := decide_eq_true c27
              clear c27
              by_cases c28 : ((rd_T95 l2 x21_1).f1) < (x9_1.length : Int)
              ·rw [if_pos c28] at H
               have c28b0 := decide_eq_true c28
               clear c28
               obtain ⟨y1198, hy1198⟩ : ∃ y_ : List (S115), y_ = (x9_1.set (((rd_T95 l2 x21_1).f0) : Int).toNat (⟨wrap64 (((rd_T115 x9_1 ((rd_T95 l2 x21_1).f0)).f0) + 1), (rd_T115 x9_1 ((rd_T95 l2 x21_1).f0)).f1, (rd_T115 x9_1 ((rd_T95 l2 x21_1).f0)).f2, (rd_T115 x9_1 ((rd_T95 l2 x21_1).f0)).f3, (rd_T115 x9_1 ((rd_T95 l2 x21_1).f0)).f4, (rd_T115 x9_1 ((rd_T95 l2 x21_1).f0)).f5, (rd_T115 x9_1 ((rd_T95 l2 x21_1).f0)).f6⟩ : S115)) := ⟨_, rfl⟩
               (first | (rw [Option.bind_some] at H; rw [← hy1198] at H) | rw [← hy1198] at H)
               have Ny1198 := dk hy1198
               clear hy1198
               obtain ⟨y1199, hy1199⟩ : ∃ y_ : List (S115), y_ = (y1198.set (((rd_T95 l2 x21_1).f1) : Int).toNat (⟨wrap64 (((rd_T115 y1198 ((rd_T95 l2 x21_1).f1)).f0) + 1), (rd_T115 y1198 ((rd_T95 l2 x21_1).f1)).f1, (rd_T115 y1198 ((rd_T95 l2 x21_1).f1)).f2, (rd_T115 y1198 ((rd_T95 l2 x21_1).f1)).f3, (rd_T115 y1198 ((rd_T95 l2 x21_1).f1)).f4, (rd_T115 y1198 ((rd_T95 l2 x21_1).f1)).f5, (rd_T115 y1198 ((rd_T95 l2 x21_1).f1)).f6⟩ : S115)) := ⟨_, rfl⟩
               (first | (rw [Option.bind_some] at H; rw [← hy1199] at H) | rw [← hy1199] at H)
               have Ny1199 := dk hy1199
               clear hy1199
               obtain ⟨y1200, hy1200⟩ : ∃ y_ : List (S115), y_ = (y1199.set (((rd_T95 l2 x21_1).f0) : Int).toNat (⟨(rd_T115 y1199 ((rd_T95 l2 x21_1).f0)).f0, (rd_T115 y1199 ((rd_T95 l2 x21_1).f0)).f1, (rd_T115 y1199 ((rd_T95 l2 x21_1).f0)).f2, (rd_T115 y1199 ((rd_T95 l2 x21_1).f0)).f3, wrap64 (((rd_T115 y1199 ((rd_T95 l2 x21_1).f0)).f4) + t1194), (rd_T115 y1199 ((rd_T95 l2 x21_1).f0)).f5, (rd_T115 y1199 ((rd_T95 l2 x21_1).f0)).f6⟩ : S115)) := ⟨_, rfl⟩
               (first | (rw [Option.bind_some] at H; rw [← hy1200] at H) | rw [← hy1200] at H)
               have Ny1200 := dk hy1200
               clear hy1200
               obtain ⟨y1201, hy1201⟩ : ∃ y_ : List (S115), y_ = (y1200.set (((rd_T95 l2 x21_1).f0) : Int).toNat (⟨(rd_T115 y1200 ((rd_T95 l2 x21_1).f0)).f0, (rd_T115 y1200 ((rd_T95 l2 x21_1).f0)).f1, (rd_T115 y1200 ((rd_T95 l2 x21_1).f0)).f2, (rd_T115 y1200 ((rd_T95 l2 x21_1).f0)).f3, (rd_T115 y1200 ((rd_T95 l2 x21_1).f0)).f4, wrap64 (((rd_T115 y1200 ((rd_T95 l2 x21_1).f0)).f5) + t1195), (rd_T115 y1200 ((rd_T95 l2 x21_1).f0)).f6⟩ : S115)) := ⟨_, rfl⟩
               (first | (rw [Option.bind_some] at H; rw [← hy1201] at H) | rw [← hy1201] at H)
               have Ny1201 := dk hy1201
               clear hy1201
               obtain ⟨y1202, hy1202⟩ : ∃ y_ : List (S115), y_ = (y1201.set (((rd_T95 l2 x21_1).f1) : Int).toNat (⟨(rd_T115 y1201 ((rd_T95 l2 x21_1).f1)).f0, (rd_T115 y1201 ((rd_T95 l2 x21_1).f1)).f1, (rd_T115 y1201 ((rd_T95 l2 x21_1).f1)).f2, (rd_T115 y1201 ((rd_T95 l2 x21_1).f1)).f3, wrap64 (((rd_T115 y1201 ((rd_T95 l2 x21_1).f1)).f4) + t1195), (rd_T115 y1201 ((rd_T95 l2 x21_1).f1)).f5, (rd_T115 y1201 ((rd_T95 l2 x21_1).f1)).f6⟩ : S115)) := ⟨_, rfl⟩
               (first | (rw [Option.bind_some] at H; rw [← hy1202] at H) | rw [← hy1202] at H)
               have Ny1202 := dk hy1202
               clear hy1202
               obtain ⟨y1203, hy1203⟩ : ∃ y_ : List (S115), y_ = (y1202.set (((rd_T95 l2 x21_1).f1) : Int).toNat (⟨(rd_T115 y1202 ((rd_T95 l2 x21_1).f1)).f0, (rd_T115 y1202 ((rd_T95 l2 x21_1).f1)).f1, (rd_T115 y1202 ((rd_T95 l2 x21_1).f1)).f2, (rd_T115 y1202 ((rd_T95 l2 x21_1).f1)).f3, (rd_T115 y1202 ((rd_T95 l2 x21_1).f1)).f4, wrap64 (((rd_T115 y1202 ((rd_T95 l2 x21_1).f1)).f5) + t1194), (rd_T115 y1202 ((rd_T95 l2 x21_1).f1)).f6⟩ : S115)) := ⟨_, rfl⟩
               (first | (rw [Option.bind_some] at H; rw [← hy1203] at H) | rw [← hy1203] at H)
               have Ny1203 := dk hy1203
               clear hy1203
               have HC30 := dk H
               clear H
               try go_wp2
               replace HO_9 := dk (Kd.R_drew HO_9.out)
               replace BK1188 := dk (blk_drew BK1188.out)
               replace BK1193 := dk (blk_drew BK1193.out)
               replace HB := dk (below_drew1 HB.out)
               have p26 : 0 ≤ (((rd_T95 l2 x21_1).f0) : Int) := oa
               have q26 : (((rd_T95 l2 x21_1).f0) : Int) < ((x9_1.length : Int) : Int) := oa
               obtain ⟨go26, co26, eo26, gb26, gl26, cl26, HG26⟩ := Kd.R_form HO_9.out (by omega)
               (first | cases eo26 | (injection eo26 with ea_ en_ ec_; (first | subst ea_ | (injection ea_ with ea_; subst ea_)); subst ec_; clear en_))
               have GB26 := dk gb26
               have GG26 := dk HG26
               clear gb26 gl26 HG26
               obtain ⟨ce26, hcl26, hM26, hcc26, hfr26⟩ := Kd.R_elem HO_9.out z115 (((rd_T95 l2 x21_1).f0) : Int) p26 q26
               obtain rfl := k115_openM hM26
               have hx26_0 : World.cell? _ ⟨go26, (((rd_T95 l2 x21_1).f0) : Int).toNat * 7, none⟩ = some (.int .i64 ((rd_T115 x9_1 ((rd_T95 l2 x21_1).f0)).f0)) := hcc26 0 _ rfl
               have hx26_1 : World.cell? _ ⟨go26, (((rd_T95 l2 x21_1).f0) : Int).toNat * 7 + 1, none⟩ = some (.int .i64 ((rd_T115 x9_1 ((rd_T95 l2 x21_1).f0)).f1)) := hcc26 1 _ rfl
               have hx26_2 : World.cell? _ ⟨go26, (((rd_T95 l2 x21_1).f0) : Int).toNat * 7 + 2, none⟩ = some (.int .i64 ((rd_T115 x9_1 ((rd_T95 l2 x21_1).f0)).f2)) := hcc26 2 _ rfl
               have hx26_3 : World.cell? _ ⟨go26, (((rd_T95 l2 x21_1).f0) : Int).toNat * 7 + 3, none⟩ = some (.int .i64 ((rd_T115 x9_1 ((rd_T95 l2 x21_1).f0)).f3)) := hcc26 3 _ rfl
               have hx26_4 : World.cell? _ ⟨go26, (((rd_T95 l2 x21_1).f0) : Int).toNat * 7 + 4, none⟩ = some (.int .i64 ((rd_T115 x9_1 ((rd_T95 l2 x21_1).f0)).f4)) := hcc26 4 _ rfl
               have hx26_5 : World.cell? _ ⟨go26, (((rd_T95 l2 x21_1).f0) : Int).toNat * 7 + 5, none⟩ = some (.int .i64 ((rd_T115 x9_1 ((rd_T95 l2 x21_1).f0)).f5)) := hcc26 5 _ rfl
               have hx26_6 : World.cell? _ ⟨go26, (((rd_T95 l2 x21_1).f0) : Int).toNat * 7 + 6, none⟩ = some (.int .i64 ((rd_T115 x9_1 ((rd_T95 l2 x21_1).f0)).f6)) := hcc26 6 _ rfl
               have hf26_0 : World.frozen? _ ⟨go26, (((rd_T95 l2 x21_1).f0) : Int).toNat * 7, none⟩ = false := hfr26 0
               have hf26_1 : World.frozen? _ ⟨go26, (((rd_T95 l2 x21_1).f0) : Int).toNat * 7 + 1, none⟩ = false := hfr26 1
               have hf26_2 : World.frozen? _ ⟨go26, (((rd_T95 l2 x21_1).f0) : Int).toNat * 7 + 2, none⟩ = false := hfr26 2
               have hf26_3 : World.frozen? _ ⟨go26, (((rd_T95 l2 x21_1).f0) : Int).toNat * 7 + 3, none⟩ = false := hfr26 3
               have hf26_4 : World.frozen? _ ⟨go26, (((rd_T95 l2 x21_1).f0) : Int).toNat * 7 + 4, none⟩ = false := hfr26 4
               have hf26_5 : World.frozen? _ ⟨go26, (((rd_T95 l2 x21_1).f0) : Int).toNat * 7 + 5, none⟩ = false := hfr26 5
               have hf26_6 : World.frozen? _ ⟨go26, (((rd_T95 l2 x21_1).f0) : Int).toNat * 7 + 6, none⟩ = false := hfr26 6
               clear hcl26 hcc26 hfr26
               replace p26 := eq_true p26
               replace q26 := eq_true q26
               have p29 : 0 ≤ (((rd_T95 l2 x21_1).f1) : Int) := oa
               have q29 : (((rd_T95 l2 x21_1).f1) : Int) < ((x9_1.length : Int) : Int) := oa
               obtain ⟨cl26_, HG26_⟩ := Kd.R_typed HO_9.out go26 rfl
               have GG26 := dk HG26_
               clear HG26_
               obtain ⟨ce29, hcl29, hM29, hcc29, hfr29⟩ := Kd.R_elem HO_9.out z115 (((rd_T95 l2 x21_1).f1) : Int) p29 q29
               obtain rfl := k115_openM hM29
               have hx29_0 : World.cell? _ ⟨go26, (((rd_T95 l2 x21_1).f1) : Int).toNat * 7, none⟩ = some (.int .i64 ((rd_T115 x9_1 ((rd_T95 l2 x21_1).f1)).f0)) := hcc29 0 _ rfl
               have hx29_1 : World.cell? _ ⟨go26, (((rd_T95 l2 x21_1).f1) : Int).toNat * 7 + 1, none⟩ = some (.int .i64 ((rd_T115 x9_1 ((rd_T95 l2 x21_1).f1)).f1)) := hcc29 1 _ rfl
               have hx29_2 : World.cell? _ ⟨go26, (((rd_T95 l2 x21_1).f1) : Int).toNat * 7 + 2, none⟩ = some (.int .i64 ((rd_T115 x9_1 ((rd_T95 l2 x21_1).f1)).f2)) := hcc29 2 _ rfl
               have hx29_3 : World.cell? _ ⟨go26, (((rd_T95 l2 x21_1).f1) : Int).toNat * 7 + 3, none⟩ = some (.int .i64 ((rd_T115 x9_1 ((rd_T95 l2 x21_1).f1)).f3)) := hcc29 3 _ rfl
               have hx29_4 : World.cell? _ ⟨go26, (((rd_T95 l2 x21_1).f1) : Int).toNat * 7 + 4, none⟩ = some (.int .i64 ((rd_T115 x9_1 ((rd_T95 l2 x21_1).f1)).f4)) := hcc29 4 _ rfl
               have hx29_5 : World.cell? _ ⟨go26, (((rd_T95 l2 x21_1).f1) : Int).toNat * 7 + 5, none⟩ = some (.int .i64 ((rd_T115 x9_1 ((rd_T95 l2 x21_1).f1)).f5)) := hcc29 5 _ rfl
               have hx29_6 : World.cell? _ ⟨go26, (((rd_T95 l2 x21_1).f1) : Int).toNat * 7 + 6, none⟩ = some (.int .i64 ((rd_T115 x9_1 ((rd_T95 l2 x21_1).f1)).f6)) := hcc29 6 _ rfl
               have hf29_0 : World.frozen? _ ⟨go26, (((rd_T95 l2 x21_1).f1) : Int).toNat * 7, none⟩ = false := hfr29 0
               have hf29_1 : World.frozen? _ ⟨go26, (((rd_T95 l2 x21_1).f1) : Int).toNat * 7 + 1, none⟩ = false := hfr29 1
               have hf29_2 : World.frozen? _ ⟨go26, (((rd_T95 l2 x21_1).f1) : Int).toNat * 7 + 2, none⟩ = false := hfr29 2
               have hf29_3 : World.frozen? _ ⟨go26, (((rd_T95 l2 x21_1).f1) : Int).toNat * 7 + 3, none⟩ = false := hfr29 3
               have hf29_4 : World.frozen? _ ⟨go26, (((rd_T95 l2 x21_1).f1) : Int).toNat * 7 + 4, none⟩ = false := hfr29 4
               have hf29_5 : World.frozen? _ ⟨go26, (((rd_T95 l2 x21_1).f1) : Int).toNat * 7 + 5, none⟩ = false := hfr29 5
               have hf29_6 : World.frozen? _ ⟨go26, (((rd_T95 l2 x21_1).f1) : Int).toNat * 7 + 6, none⟩ = false := hfr29 6
               clear hcl29 hcc29 hfr29
               replace p29 := eq_true p29
               replace q29 := eq_true q29
               refine start_ (n := 10) (S := fun w' => hd5 w' gb1193 (.int .i64 ((rd_T95 l2 x21_1).f0)) (.int .i64 ((rd_T95 l2 x21_1).f1)) (.int .i64 ((rd_T95 l2 x21_1).f2)) (.int .i64 ((rd_T95 l2 x21_1).f3)) (.int .i64 ((rd_T95 l2 x21_1).f4))) (ds := []) #[false, false, false, false, false, false, false, false, false, false] (by kernel_rfl) rfl rfl (rb5 BK1193) (fun hHeld => ?_); refine with_tabW impl_tableOfG.tab7 impl_tableOfG.bits7 (fun HT_ HW_ => ?_)
               generalize wc.drew = w31 at HO_9 BK1188 BK1193 HB GG26 hf26_0 hf26_1 hf26_2 hf26_3 hf26_4 hf26_5 hf26_6 hf29_0 hf29_1 hf29_2 hf29_3 hf29_4 hf29_5 hf29_6 hx26_0 hx26_1 hx26_2 hx26_3 hx26_4 hx26_5 hx26_6 hx29_0 hx29_1 hx29_2 hx29_3 hx29_4 hx29_5 hx29_6 hHeld ⊢
               refine pz_ 0 39 ?_
               refine pz_ 1 40 ?_
               refine pz_ 4 43 ?_
               refine pz_ 5 44 ?_
               refine tk_ 2 41 ?_
               refine pz_ 3 42 ?_
               refine pz_ 8 15 ?_
               refine tk_ 6 45 ?_
               refine pz_ 7 46 ?_
               refine pz_ 9 16 ?_
               refine done_ (done_of HT_.out (by kernel_rfl)) ?_
               have HX32 := dk (show Kd.R k115 115 w31 w.heap.size (fun _ => True) (.slice (some ⟨go26, 0, none⟩) x9_1.length co26) x9_1 from (rr HO_9))
               obtain ⟨ce32, hcl32, hM32, hcc32, hfr32⟩ := Kd.R_elem HX32.out z115 (((rd_T95 l2 x21_1).f0) : Int) (oa) (by have h_ : (((rd_T95 l2 x21_1).f0) : Int) < ((x9_1.length : Int) : Int) := oa; first | exact h_ | (have e_ := (Kd.R_reads' HO_9.out).1; omega) | simpa using h_)
               obtain rfl := k115_openM hM32
               have HP32 := Kd.R_seg HX32.out (((rd_T95 l2 x21_1).f0) : Int) (oa) (by have h_ : (((rd_T95 l2 x21_1).f0) : Int) < ((x9_1.length : Int) : Int) := oa; first | exact h_ | (have e_ := (Kd.R_reads' HO_9.out).1; omega) | simpa using h_) (seg := [.int .i64 (wrap64 (((rd_T115 x9_1 ((rd_T95 l2 x21_1).f0)).f0) + 1))]) (j := 0) hcl32 hcc32 (show 1 ≤ 7 from by decide) (x' := (⟨wrap64 (((rd_T115 x9_1 ((rd_T95 l2 x21_1).f0)).f0) + 1), (rd_T115 x9_1 ((rd_T95 l2 x21_1).f0)).f1, (rd_T115 x9_1 ((rd_T95 l2 x21_1).f0)).f2, (rd_T115 x9_1 ((rd_T95 l2 x21_1).f0)).f3, (rd_T115 x9_1 ((rd_T95 l2 x21_1).f0)).f4, (rd_T115 x9_1 ((rd_T95 l2 x21_1).f0)).f5, (rd_T115 x9_1 ((rd_T95 l2 x21_1).f0)).f6⟩ : S115)) (k115_mkM _ _ _ (⟨wrap64 (((rd_T115 x9_1 ((rd_T95 l2 x21_1).f0)).f0) + 1), (rd_T115 x9_1 ((rd_T95 l2 x21_1).f0)).f1, (rd_T115 x9_1 ((rd_T95 l2 x21_1).f0)).f2, (rd_T115 x9_1 ((rd_T95 l2 x21_1).f0)).f3, (rd_T115 x9_1 ((rd_T95 l2 x21_1).f0)).f4, (rd_T115 x9_1 ((rd_T95 l2 x21_1).f0)).f5, (rd_T115 x9_1 ((rd_T95 l2 x21_1).f0)).f6⟩ : S115) ) (fun _ hk => hk)
               have hx32_0 := hcc32 0 _ rfl
               (try simp only [show (k115).sz = 7 from rfl, Nat.mul_one, Nat.add_zero] at hx32_0)
               have hf32_0 := hfr32 0
               (try simp only [show (k115).sz = 7 from rfl, Nat.mul_one, Nat.add_zero] at hf32_0)
               clear hcl32 hcc32 hfr32
               go_upto_if 125 with (first | ((with_reducible refine gate_store (t := 3) (p := 53) rfl ?_); refine store_event (t := 3) (p := 53) (v := ?vo_w33) (w1 := (w31.setCell ⟨go26, (((rd_T95 l2 x21_1).f0) : Int).toNat * 7, none⟩ (.int .i64 (wrap64 (((rd_T115 x9_1 ((rd_T95 l2 x21_1).f0)).f0) + 1))))) ?hg ?ho ?hn ?hr ?_; (case ho => rfl); (case hg => rfl); (case hn => rfl); (case hr => first | (go_simp; done) | (go_simp; rfl)); intro w33 hw; have hg : w31.grownBy w33 (some go26) := (by rw [hw]; exact HP32.2); have hp_ : Kd.R k115 115 w33 w.heap.size (fun _ => True) (.slice (some ⟨go26, 0, none⟩) x9_1.length co26) y1198 := (by rw [hw, Ny1198.out]; exact HP32.1); clear HP32; replace BK1188 := dk (blk_grown (g := gb1188) (o := .cells #[.int .i64 a0_0, .int .i64 a0_1, .int .i64 a0_2, .slice A0_3 l0_3.length c0_3, .bool a0_4] 33 (0, 0)) (bk BK1188) hg (Kd.R_ne HO_9.out BK1188.out (by decide))); replace BK1193 := dk (blk_grown (g := gb1193) (o := .cells #[.int .i64 ((rd_T95 l2 x21_1).f0), .int .i64 ((rd_T95 l2 x21_1).f1), .int .i64 ((rd_T95 l2 x21_1).f2), .int .i64 ((rd_T95 l2 x21_1).f3), .int .i64 ((rd_T95 l2 x21_1).f4)] 95 (0, 0)) (bk BK1193) hg (Kd.R_ne HO_9.out BK1193.out (by decide))); replace HO_9 := dk (hp_); replace HB := dk (by rw [hw]; exact below_set (HB.out) GB26.out : Below w.heap.size w w33); clear hg hw hp_; have HX34 := dk (show Kd.R k115 115 w33 w.heap.size (fun _ => True) (.slice (some ⟨go26, 0, none⟩) x9_1.length co26) y1198 from (rr HO_9)); obtain ⟨ce34, hcl34, hM34, hcc34, hfr34⟩ := Kd.R_elem HX34.out z115 (((rd_T95 l2 x21_1).f1) : Int) (oa) (by have h_ : (((rd_T95 l2 x21_1).f1) : Int) < ((x9_1.length : Int) : Int) := oa; first | exact h_ | (have e_ := (Kd.R_reads' HO_9.out).1; omega) | simpa using h_); obtain rfl := k115_openM hM34; have HP34 := Kd.R_seg HX34.out (((rd_T95 l2 x21_1).f1) : Int) (oa) (by have h_ : (((rd_T95 l2 x21_1).f1) : Int) < ((x9_1.length : Int) : Int) := oa; first | exact h_ | (have e_ := (Kd.R_reads' HO_9.out).1; omega) | simpa using h_) (seg := [.int .i64 (wrap64 (((rd_T115 y1198 ((rd_T95 l2 x21_1).f1)).f0) + 1))]) (j := 0) hcl34 hcc34 (show 1 ≤ 7 from by decide) (x' := (⟨wrap64 (((rd_T115 y1198 ((rd_T95 l2 x21_1).f1)).f0) + 1), (rd_T115 y1198 ((rd_T95 l2 x21_1).f1)).f1, (rd_T115 y1198 ((rd_T95 l2 x21_1).f1)).f2, (rd_T115 y1198 ((rd_T95 l2 x21_1).f1)).f3, (rd_T115 y1198 ((rd_T95 l2 x21_1).f1)).f4, (rd_T115 y1198 ((rd_T95 l2 x21_1).f1)).f5, (rd_T115 y1198 ((rd_T95 l2 x21_1).f1)).f6⟩ : S115)) (k115_mkM _ _ _ (⟨wrap64 (((rd_T115 y1198 ((rd_T95 l2 x21_1).f1)).f0) + 1), (rd_T115 y1198 ((rd_T95 l2 x21_1).f1)).f1, (rd_T115 y1198 ((rd_T95 l2 x21_1).f1)).f2, (rd_T115 y1198 ((rd_T95 l2 x21_1).f1)).f3, (rd_T115 y1198 ((rd_T95 l2 x21_1).f1)).f4, (rd_T115 y1198 ((rd_T95 l2 x21_1).f1)).f5, (rd_T115 y1198 ((rd_T95 l2 x21_1).f1)).f6⟩ : S115) ) (fun _ hk => hk); have hx34_0 := hcc34 0 _ rfl; (try simp only [show (k115).sz = 7 from rfl, Nat.mul_one, Nat.add_zero] at hx34_0); have hf34_0 := hfr34 0; (try simp only [show (k115).sz = 7 from rfl, Nat.mul_one, Nat.add_zero] at hf34_0); clear hcl34 hcc34 hfr34) | ((with_reducible refine gate_store (t := 3) (p := 60) rfl ?_); refine store_event (t := 3) (p := 60) (v := ?vo_w35) (w1 := (w33.setCell ⟨go26, (((rd_T95 l2 x21_1).f1) : Int).toNat * 7, none⟩ (.int .i64 (wrap64 (((rd_T115 y1198 ((rd_T95 l2 x21_1).f1)).f0) + 1))))) ?hg ?ho ?hn ?hr ?_; (case ho => rfl); (case hg => rfl); (case hn => rfl); (case hr => first | (go_simp; done) | (go_simp; rfl)); intro w35 hw; have hg : w33.grownBy w35 (some go26) := (by rw [hw]; exact HP34.2); have hp_ : Kd.R k115 115 w35 w.heap.size (fun _ => True) (.slice (some ⟨go26, 0, none⟩) x9_1.length co26) y1199 := (by rw [hw, Ny1199.out]; exact HP34.1); clear HP34; replace BK1188 := dk (blk_grown (g := gb1188) (o := .cells #[.int .i64 a0_0, .int .i64 a0_1, .int .i64 a0_2, .slice A0_3 l0_3.length c0_3, .bool a0_4] 33 (0, 0)) (bk BK1188) hg (Kd.R_ne HO_9.out BK1188.out (by decide))); replace BK1193 := dk (blk_grown (g := gb1193) (o := .cells #[.int .i64 ((rd_T95 l2 x21_1).f0), .int .i64 ((rd_T95 l2 x21_1).f1), .int .i64 ((rd_T95 l2 x21_1).f2), .int .i64 ((rd_T95 l2 x21_1).f3), .int .i64 ((rd_T95 l2 x21_1).f4)] 95 (0, 0)) (bk BK1193) hg (Kd.R_ne HO_9.out BK1193.out (by decide))); replace HO_9 := dk (hp_); replace HB := dk (by rw [hw]; exact below_set (HB.out) GB26.out : Below w.heap.size w w35); clear hg hw hp_; have HX36 := dk (show Kd.R k115 115 w35 w.heap.size (fun _ => True) (.slice (some ⟨go26, 0, none⟩) x9_1.length co26) y1199 from (rr HO_9)); obtain ⟨ce36, hcl36, hM36, hcc36, hfr36⟩ := Kd.R_elem HX36.out z115 (((rd_T95 l2 x21_1).f0) : Int) (oa) (by have h_ : (((rd_T95 l2 x21_1).f0) : Int) < ((x9_1.length : Int) : Int) := oa; first | exact h_ | (have e_ := (Kd.R_reads' HO_9.out).1; omega) | simpa using h_); obtain rfl := k115_openM hM36; have HP36 := Kd.R_seg HX36.out (((rd_T95 l2 x21_1).f0) : Int) (oa) (by have h_ : (((rd_T95 l2 x21_1).f0) : Int) < ((x9_1.length : Int) : Int) := oa; first | exact h_ | (have e_ := (Kd.R_reads' HO_9.out).1; omega) | simpa using h_) (seg := [.int .i64 (wrap64 (((rd_T115 y1199 ((rd_T95 l2 x21_1).f0)).f4) + t1194))]) (j := 4) hcl36 hcc36 (show 5 ≤ 7 from by decide) (x' := (⟨(rd_T115 y1199 ((rd_T95 l2 x21_1).f0)).f0, (rd_T115 y1199 ((rd_T95 l2 x21_1).f0)).f1, (rd_T115 y1199 ((rd_T95 l2 x21_1).f0)).f2, (rd_T115 y1199 ((rd_T95 l2 x21_1).f0)).f3, wrap64 (((rd_T115 y1199 ((rd_T95 l2 x21_1).f0)).f4) + t1194), (rd_T115 y1199 ((rd_T95 l2 x21_1).f0)).f5, (rd_T115 y1199 ((rd_T95 l2 x21_1).f0)).f6⟩ : S115)) (k115_mkM _ _ _ (⟨(rd_T115 y1199 ((rd_T95 l2 x21_1).f0)).f0, (rd_T115 y1199 ((rd_T95 l2 x21_1).f0)).f1, (rd_T115 y1199 ((rd_T95 l2 x21_1).f0)).f2, (rd_T115 y1199 ((rd_T95 l2 x21_1).f0)).f3, wrap64 (((rd_T115 y1199 ((rd_T95 l2 x21_1).f0)).f4) + t1194), (rd_T115 y1199 ((rd_T95 l2 x21_1).f0)).f5, (rd_T115 y1199 ((rd_T95 l2 x21_1).f0)).f6⟩ : S115) ) (fun _ hk => hk); have hx36_4 := hcc36 4 _ rfl; (try simp only [show (k115).sz = 7 from rfl, Nat.mul_one, Nat.add_zero] at hx36_4); have hf36_4 := hfr36 4; (try simp only [show (k115).sz = 7 from rfl, Nat.mul_one, Nat.add_zero] at hf36_4); clear hcl36 hcc36 hfr36) | ((with_reducible refine gate_store (t := 3) (p := 68) rfl ?_); refine store_event (t := 3) (p := 68) (v := ?vo_w37) (w1 := (w35.setCell ⟨go26, (((rd_T95 l2 x21_1).f0) : Int).toNat * 7 + 4, none⟩ (.int .i64 (wrap64 (((rd_T115 y1199 ((rd_T95 l2 x21_1).f0)).f4) + t1194))))) ?hg ?ho ?hn ?hr ?_; (case ho => rfl); (case hg => rfl); (case hn => rfl); (case hr => first | (go_simp; done) | (go_simp; rfl)); intro w37 hw; have hg : w35.grownBy w37 (some go26) := (by rw [hw]; exact HP36.2); have hp_ : Kd.R k115 115 w37 w.heap.size (fun _ => True) (.slice (some ⟨go26, 0, none⟩) x9_1.length co26) y1200 := (by rw [hw, Ny1200.out]; exact HP36.1); clear HP36; replace BK1188 := dk (blk_grown (g := gb1188) (o := .cells #[.int .i64 a0_0, .int .i64 a0_1, .int .i64 a0_2, .slice A0_3 l0_3.length c0_3, .bool a0_4] 33 (0, 0)) (bk BK1188) hg (Kd.R_ne HO_9.out BK1188.out (by decide))); replace BK1193 := dk (blk_grown (g := gb1193) (o := .cells #[.int .i64 ((rd_T95 l2 x21_1).f0), .int .i64 ((rd_T95 l2 x21_1).f1), .int .i64 ((rd_T95 l2 x21_1).f2), .int .i64 ((rd_T95 l2 x21_1).f3), .int .i64 ((rd_T95 l2 x21_1).f4)] 95 (0, 0)) (bk BK1193) hg (Kd.R_ne HO_9.out BK1193.out (by decide))); replace HO_9 := dk (hp_); replace HB := dk (by rw [hw]; exact below_set (HB.out) GB26.out : Below w.heap.size w w37); clear hg hw hp_; have HX38 := dk (show Kd.R k115 115 w37 w.heap.size (fun _ => True) (.slice (some ⟨go26, 0, none⟩) x9_1.length co26) y1200 from (rr HO_9)); obtain ⟨ce38, hcl38, hM38, hcc38, hfr38⟩ := Kd.R_elem HX38.out z115 (((rd_T95 l2 x21_1).f0) : Int) (oa) (by have h_ : (((rd_T95 l2 x21_1).f0) : Int) < ((x9_1.length : Int) : Int) := oa; first | exact h_ | (have e_ := (Kd.R_reads' HO_9.out).1; omega) | simpa using h_); obtain rfl := k115_openM hM38; have HP38 := Kd.R_seg HX38.out (((rd_T95 l2 x21_1).f0) : Int) (oa) (by have h_ : (((rd_T95 l2 x21_1).f0) : Int) < ((x9_1.length : Int) : Int) := oa; first | exact h_ | (have e_ := (Kd.R_reads' HO_9.out).1; omega) | simpa using h_) (seg := [.int .i64 (wrap64 (((rd_T115 y1200 ((rd_T95 l2 x21_1).f0)).f5) + t1195))]) (j := 5) hcl38 hcc38 (show 6 ≤ 7 from by decide) (x' := (⟨(rd_T115 y1200 ((rd_T95 l2 x21_1).f0)).f0, (rd_T115 y1200 ((rd_T95 l2 x21_1).f0)).f1, (rd_T115 y1200 ((rd_T95 l2 x21_1).f0)).f2, (rd_T115 y1200 ((rd_T95 l2 x21_1).f0)).f3, (rd_T115 y1200 ((rd_T95 l2 x21_1).f0)).f4, wrap64 (((rd_T115 y1200 ((rd_T95 l2 x21_1).f0)).f5) + t1195), (rd_T115 y1200 ((rd_T95 l2 x21_1).f0)).f6⟩ : S115)) (k115_mkM _ _ _ (⟨(rd_T115 y1200 ((rd_T95 l2 x21_1).f0)).f0, (rd_T115 y1200 ((rd_T95 l2 x21_1).f0)).f1, (rd_T115 y1200 ((rd_T95 l2 x21_1).f0)).f2, (rd_T115 y1200 ((rd_T95 l2 x21_1).f0)).f3, (rd_T115 y1200 ((rd_T95 l2 x21_1).f0)).f4, wrap64 (((rd_T115 y1200 ((rd_T95 l2 x21_1).f0)).f5) + t1195), (rd_T115 y1200 ((rd_T95 l2 x21_1).f0)).f6⟩ : S115) ) (fun _ hk => hk); have hx38_5 := hcc38 5 _ rfl; (try simp only [show (k115).sz = 7 from rfl, Nat.mul_one, Nat.add_zero] at hx38_5); have hf38_5 := hfr38 5; (try simp only [show (k115).sz = 7 from rfl, Nat.mul_one, Nat.add_zero] at hf38_5); clear hcl38 hcc38 hfr38) | ((with_reducible refine gate_store (t := 3) (p := 76) rfl ?_); refine store_event (t := 3) (p := 76) (v := ?vo_w39) (w1 := (w37.setCell ⟨go26, (((rd_T95 l2 x21_1).f0) : Int).toNat * 7 + 5, none⟩ (.int .i64 (wrap64 (((rd_T115 y1200 ((rd_T95 l2 x21_1).f0)).f5) + t1195))))) ?hg ?ho ?hn ?hr ?_; (case ho => rfl); (case hg => rfl); (case hn => rfl); (case hr => first | (go_simp; done) | (go_simp; rfl)); intro w39 hw; have hg : w37.grownBy w39 (some go26) := (by rw [hw]; exact HP38.2); have hp_ : Kd.R k115 115 w39 w.heap.size (fun _ => True) (.slice (some ⟨go26, 0, none⟩) x9_1.length co26) y1201 := (by rw [hw, Ny1201.out]; exact HP38.1); clear HP38; replace BK1188 := dk (blk_grown (g := gb1188) (o := .cells #[.int .i64 a0_0, .int .i64 a0_1, .int .i64 a0_2, .slice A0_3 l0_3.length c0_3, .bool a0_4] 33 (0, 0)) (bk BK1188) hg (Kd.R_ne HO_9.out BK1188.out (by decide))); replace BK1193 := dk (blk_grown (g := gb1193) (o := .cells #[.int .i64 ((rd_T95 l2 x21_1).f0), .int .i64 ((rd_T95 l2 x21_1).f1), .int .i64 ((rd_T95 l2 x21_1).f2), .int .i64 ((rd_T95 l2 x21_1).f3), .int .i64 ((rd_T95 l2 x21_1).f4)] 95 (0, 0)) (bk BK1193) hg (Kd.R_ne HO_9.out BK1193.out (by decide))); replace HO_9 := dk (hp_); replace HB := dk (by rw [hw]; exact below_set (HB.out) GB26.out : Below w.heap.size w w39); clear hg hw hp_; have HX40 := dk (show Kd.R k115 115 w39 w.heap.size (fun _ => True) (.slice (some ⟨go26, 0, none⟩) x9_1.length co26) y1201 from (rr HO_9)); obtain ⟨ce40, hcl40, hM40, hcc40, hfr40⟩ := Kd.R_elem HX40.out z115 (((rd_T95 l2 x21_1).f1) : Int) (oa) (by have h_ : (((rd_T95 l2 x21_1).f1) : Int) < ((x9_1.length : Int) : Int) := oa; first | exact h_ | (have e_ := (Kd.R_reads' HO_9.out).1; omega) | simpa using h_); obtain rfl := k115_openM hM40; have HP40 := Kd.R_seg HX40.out (((rd_T95 l2 x21_1).f1) : Int) (oa) (by have h_ : (((rd_T95 l2 x21_1).f1) : Int) < ((x9_1.length : Int) : Int) := oa; first | exact h_ | (have e_ := (Kd.R_reads' HO_9.out).1; omega) | simpa using h_) (seg := [.int .i64 (wrap64 (((rd_T115 y1201 ((rd_T95 l2 x21_1).f1)).f4) + t1195))]) (j := 4) hcl40 hcc40 (show 5 ≤ 7 from by decide) (x' := (⟨(rd_T115 y1201 ((rd_T95 l2 x21_1).f1)).f0, (rd_T115 y1201 ((rd_T95 l2 x21_1).f1)).f1, (rd_T115 y1201 ((rd_T95 l2 x21_1).f1)).f2, (rd_T115 y1201 ((rd_T95 l2 x21_1).f1)).f3, wrap64 (((rd_T115 y1201 ((rd_T95 l2 x21_1).f1)).f4) + t1195), (rd_T115 y1201 ((rd_T95 l2 x21_1).f1)).f5, (rd_T115 y1201 ((rd_T95 l2 x21_1).f1)).f6⟩ : S115)) (k115_mkM _ _ _ (⟨(rd_T115 y1201 ((rd_T95 l2 x21_1).f1)).f0, (rd_T115 y1201 ((rd_T95 l2 x21_1).f1)).f1, (rd_T115 y1201 ((rd_T95 l2 x21_1).f1)).f2, (rd_T115 y1201 ((rd_T95 l2 x21_1).f1)).f3, wrap64 (((rd_T115 y1201 ((rd_T95 l2 x21_1).f1)).f4) + t1195), (rd_T115 y1201 ((rd_T95 l2 x21_1).f1)).f5, (rd_T115 y1201 ((rd_T95 l2 x21_1).f1)).f6⟩ : S115) ) (fun _ hk => hk); have hx40_4 := hcc40 4 _ rfl; (try simp only [show (k115).sz = 7 from rfl, Nat.mul_one, Nat.add_zero] at hx40_4); have hf40_4 := hfr40 4; (try simp only [show (k115).sz = 7 from rfl, Nat.mul_one, Nat.add_zero] at hf40_4); clear hcl40 hcc40 hfr40) | ((with_reducible refine gate_store (t := 3) (p := 84) rfl ?_); refine store_event (t := 3) (p := 84) (v := ?vo_w41) (w1 := (w39.setCell ⟨go26, (((rd_T95 l2 x21_1).f1) : Int).toNat * 7 + 4, none⟩ (.int .i64 (wrap64 (((rd_T115 y1201 ((rd_T95 l2 x21_1).f1)).f4) + t1195))))) ?hg ?ho ?hn ?hr ?_; (case ho => rfl); (case hg => rfl); (case hn => rfl); (case hr => first | (go_simp; done) | (go_simp; rfl)); intro w41 hw; have hg : w39.grownBy w41 (some go26) := (by rw [hw]; exact HP40.2); have hp_ : Kd.R k115 115 w41 w.heap.size (fun _ => True) (.slice (some ⟨go26, 0, none⟩) x9_1.length co26) y1202 := (by rw [hw, Ny1202.out]; exact HP40.1); clear HP40; replace BK1188 := dk (blk_grown (g := gb1188) (o := .cells #[.int .i64 a0_0, .int .i64 a0_1, .int .i64 a0_2, .slice A0_3 l0_3.length c0_3, .bool a0_4] 33 (0, 0)) (bk BK1188) hg (Kd.R_ne HO_9.out BK1188.out (by decide))); replace BK1193 := dk (blk_grown (g := gb1193) (o := .cells #[.int .i64 ((rd_T95 l2 x21_1).f0), .int .i64 ((rd_T95 l2 x21_1).f1), .int .i64 ((rd_T95 l2 x21_1).f2), .int .i64 ((rd_T95 l2 x21_1).f3), .int .i64 ((rd_T95 l2 x21_1).f4)] 95 (0, 0)) (bk BK1193) hg (Kd.R_ne HO_9.out BK1193.out (by decide))); replace HO_9 := dk (hp_); replace HB := dk (by rw [hw]; exact below_set (HB.out) GB26.out : Below w.heap.size w w41); clear hg hw hp_; have HX42 := dk (show Kd.R k115 115 w41 w.heap.size (fun _ => True) (.slice (some ⟨go26, 0, none⟩) x9_1.length co26) y1202 from (rr HO_9)); obtain ⟨ce42, hcl42, hM42, hcc42, hfr42⟩ := Kd.R_elem HX42.out z115 (((rd_T95 l2 x21_1).f1) : Int) (oa) (by have h_ : (((rd_T95 l2 x21_1).f1) : Int) < ((x9_1.length : Int) : Int) := oa; first | exact h_ | (have e_ := (Kd.R_reads' HO_9.out).1; omega) | simpa using h_); obtain rfl := k115_openM hM42; have HP42 := Kd.R_seg HX42.out (((rd_T95 l2 x21_1).f1) : Int) (oa) (by have h_ : (((rd_T95 l2 x21_1).f1) : Int) < ((x9_1.length : Int) : Int) := oa; first | exact h_ | (have e_ := (Kd.R_reads' HO_9.out).1; omega) | simpa using h_) (seg := [.int .i64 (wrap64 (((rd_T115 y1202 ((rd_T95 l2 x21_1).f1)).f5) + t1194))]) (j := 5) hcl42 hcc42 (show 6 ≤ 7 from by decide) (x' := (⟨(rd_T115 y1202 ((rd_T95 l2 x21_1).f1)).f0, (rd_T115 y1202 ((rd_T95 l2 x21_1).f1)).f1, (rd_T115 y1202 ((rd_T95 l2 x21_1).f1)).f2, (rd_T115 y1202 ((rd_T95 l2 x21_1).f1)).f3, (rd_T115 y1202 ((rd_T95 l2 x21_1).f1)).f4, wrap64 (((rd_T115 y1202 ((rd_T95 l2 x21_1).f1)).f5) + t1194), (rd_T115 y1202 ((rd_T95 l2 x21_1).f1)).f6⟩ : S115)) (k115_mkM _ _ _ (⟨(rd_T115 y1202 ((rd_T95 l2 x21_1).f1)).f0, (rd_T115 y1202 ((rd_T95 l2 x21_1).f1)).f1, (rd_T115 y1202 ((rd_T95 l2 x21_1).f1)).f2, (rd_T115 y1202 ((rd_T95 l2 x21_1).f1)).f3, (rd_T115 y1202 ((rd_T95 l2 x21_1).f1)).f4, wrap64 (((rd_T115 y1202 ((rd_T95 l2 x21_1).f1)).f5) + t1194), (rd_T115 y1202 ((rd_T95 l2 x21_1).f1)).f6⟩ : S115) ) (fun _ hk => hk); have hx42_5 := hcc42 5 _ rfl; (try simp only [show (k115).sz = 7 from rfl, Nat.mul_one, Nat.add_zero] at hx42_5); have hf42_5 := hfr42 5; (try simp only [show (k115).sz = 7 from rfl, Nat.mul_one, Nat.add_zero] at hf42_5); clear hcl42 hcc42 hfr42) | ((with_reducible refine gate_store (t := 3) (p := 92) rfl ?_); refine store_event (t := 3) (p := 92) (v := ?vo_w43) (w1 := (w41.setCell ⟨go26, (((rd_T95 l2 x21_1).f1) : Int).toNat * 7 + 5, none⟩ (.int .i64 (wrap64 (((rd_T115 y1202 ((rd_T95 l2 x21_1).f1)).f5) + t1194))))) ?hg ?ho ?hn ?hr ?_; (case ho => rfl); (case hg => rfl); (case hn => rfl); (case hr => first | (go_simp; done) | (go_simp; rfl)); intro w43 hw; have hg : w41.grownBy w43 (some go26) := (by rw [hw]; exact HP42.2); have hp_ : Kd.R k115 115 w43 w.heap.size (fun _ => True) (.slice (some ⟨go26, 0, none⟩) x9_1.length co26) y1203 := (by rw [hw, Ny1203.out]; exact HP42.1); clear HP42; replace BK1188 := dk (blk_grown (g := gb1188) (o := .cells #[.int .i64 a0_0, .int .i64 a0_1, .int .i64 a0_2, .slice A0_3 l0_3.length c0_3, .bool a0_4] 33 (0, 0)) (bk BK1188) hg (Kd.R_ne HO_9.out BK1188.out (by decide))); replace BK1193 := dk (blk_grown (g := gb1193) (o := .cells #[.int .i64 ((rd_T95 l2 x21_1).f0), .int .i64 ((rd_T95 l2 x21_1).f1), .int .i64 ((rd_T95 l2 x21_1).f2), .int .i64 ((rd_T95 l2 x21_1).f3), .int .i64 ((rd_T95 l2 x21_1).f4)] 95 (0, 0)) (bk BK1193) hg (Kd.R_ne HO_9.out BK1193.out (by decide))); replace HO_9 := dk (hp_); replace HB := dk (by rw [hw]; exact below_set (HB.out) GB26.out : Below w.heap.size w w43); clear hg hw hp_))
               (try simp only [Act.put, List.setIfInBounds_toArray, List.set_cons_zero, List.set_cons_succ])
               have H := HC30.out
               clear HC30
               by_cases c44 : t1194 > t1195
               ·rw [if_pos c44] at H
                have c44b0 := decide_eq_true c44
                clear c44
                (first | rw [c44b0] | rw [c44b1] | (simp only [i64_w, i32_w]; rw [c44b0]) | skip)
                obtain ⟨y1204, hy1204⟩ : ∃ y_ : List (S115), y_ = (y1203.set (((rd_T95 l2 x21_1).f0) : Int).toNat (⟨(rd_T115 y1203 ((rd_T95 l2 x21_1).f0)).f0, wrap64 (((rd_T115 y1203 ((rd_T95 l2 x21_1).f0)).f1) + 1), (rd_T115 y1203 ((rd_T95 l2 x21_1).f0)).f2, (rd_T115 y1203 ((rd_T95 l2 x21_1).f0)).f3, (rd_T115 y1203 ((rd_T95 l2 x21_1).f0)).f4, (rd_T115 y1203 ((rd_T95 l2 x21_1).f0)).f5, (rd_T115 y1203 ((rd_T95 l2 x21_1).f0)).f6⟩ : S115)) := ⟨_, rfl⟩
                (first | (rw [Option.bind_some] at H; rw [← hy1204] at H) | rw [← hy1204] at H)
                have Ny1204 := dk hy1204
                clear hy1204
                obtain ⟨y1205, hy1205⟩ : ∃ y_ : List (S115), y_ = (y1204.set (((rd_T95 l2 x21_1).f1) : Int).toNat (⟨(rd_T115 y1204 ((rd_T95 l2 x21_1).f1)).f0, (rd_T115 y1204 ((rd_T95 l2 x21_1).f1)).f1, (rd_T115 y1204 ((rd_T95 l2 x21_1).f1)).f2, wrap64 (((rd_T115 y1204 ((rd_T95 l2 x21_1).f1)).f3) + 1), (rd_T115 y1204 ((rd_T95 l2 x21_1).f1)).f4, (rd_T115 y1204 ((rd_T95 l2 x21_1).f1)).f5, (rd_T115 y1204 ((rd_T95 l2 x21_1).f1)).f6⟩ : S115)) := ⟨_, rfl⟩
                (first | (rw [Option.bind_some] at H; rw [← hy1205] at H) | rw [← hy1205] at H)
                have Ny1205 := dk hy1205
                clear hy1205
                obtain ⟨y1206, hy1206⟩ : ∃ y_ : List (S115), y_ = (y1205.set (((rd_T95 l2 x21_1).f0) : Int).toNat (⟨(rd_T115 y1205 ((rd_T95 l2 x21_1).f0)).f0, (rd_T115 y1205 ((rd_T95 l2 x21_1).f0)).f1, (rd_T115 y1205 ((rd_T95 l2 x21_1).f0)).f2, (rd_T115 y1205 ((rd_T95 l2 x21_1).f0)).f3, (rd_T115 y1205 ((rd_T95 l2 x21_1).f0)).f4, (rd_T115 y1205 ((rd_T95 l2 x21_1).f0)).f5, wrap64 (((rd_T115 y1205 ((rd_T95 l2 x21_1).f0)).f6) + a0_0)⟩ : S115)) := ⟨_, rfl⟩
                (first | (rw [Option.bind_some] at H; rw [← hy1206] at H) | rw [← hy1206] at H)
                have Ny1206 := dk hy1206
                clear hy1206
                obtain ⟨y1207, hy1207⟩ : ∃ y_ : List (S115), y_ = (y1206.set (((rd_T95 l2 x21_1).f1) : Int).toNat (⟨(rd_T115 y1206 ((rd_T95 l2 x21_1).f1)).f0, (rd_T115 y1206 ((rd_T95 l2 x21_1).f1)).f1, (rd_T115 y1206 ((rd_T95 l2 x21_1).f1)).f2, (rd_T115 y1206 ((rd_T95 l2 x21_1).f1)).f3, (rd_T115 y1206 ((rd_T95 l2 x21_1).f1)).f4, (rd_T115 y1206 ((rd_T95 l2 x21_1).f1)).f5, wrap64 (((rd_T115 y1206 ((rd_T95 l2 x21_1).f1)).f6) + a0_2)⟩ : S115)) := ⟨_, rfl⟩
                (first | (rw [Option.bind_some] at H; rw [← hy1207] at H) | rw [← hy1207] at H)
                have Ny1207 := dk hy1207
                clear hy1207
                have H' := dk H
                clear H
                have HX45 := dk (show Kd.R k115 115 w43 w.heap.size (fun _ => True) (.slice (some ⟨go26, 0, none⟩) x9_1.length co26) y1203 from (rr HO_9))
                obtain ⟨ce45, hcl45, hM45, hcc45, hfr45⟩ := Kd.R_elem HX45.out z115 (((rd_T95 l2 x21_1).f0) : Int) (oa) (by have h_ : (((rd_T95 l2 x21_1).f0) : Int) < ((x9_1.length : Int) : Int) := oa; first | exact h_ | (have e_ := (Kd.R_reads' HO_9.out).1; omega) | simpa using h_)
                obtain rfl := k115_openM hM45
                have HP45 := Kd.R_seg HX45.out (((rd_T95 l2 x21_1).f0) : Int) (oa) (by have h_ : (((rd_T95 l2 x21_1).f0) : Int) < ((x9_1.length : Int) : Int) := oa; first | exact h_ | (have e_ := (Kd.R_reads' HO_9.out).1; omega) | simpa using h_) (seg := [.int .i64 (wrap64 (((rd_T115 y1203 ((rd_T95 l2 x21_1).f0)).f1) + 1))]) (j := 1) hcl45 hcc45 (show 2 ≤ 7 from by decide) (x' := (⟨(rd_T115 y1203 ((rd_T95 l2 x21_1).f0)).f0, wrap64 (((rd_T115 y1203 ((rd_T95 l2 x21_1).f0)).f1) + 1), (rd_T115 y1203 ((rd_T95 l2 x21_1).f0)).f2, (rd_T115 y1203 ((rd_T95 l2 x21_1).f0)).f3, (rd_T115 y1203 ((rd_T95 l2 x21_1).f0)).f4, (rd_T115 y1203 ((rd_T95 l2 x21_1).f0)).f5, (rd_T115 y1203 ((rd_T95 l2 x21_1).f0)).f6⟩ : S115)) (k115_mkM _ _ _ (⟨(rd_T115 y1203 ((rd_T95 l2 x21_1).f0)).f0, wrap64 (((rd_T115 y1203 ((rd_T95 l2 x21_1).f0)).f1) + 1), (rd_T115 y1203 ((rd_T95 l2 x21_1).f0)).f2, (rd_T115 y1203 ((rd_T95 l2 x21_1).f0)).f3, (rd_T115 y1203 ((rd_T95 l2 x21_1).f0)).f4, (rd_T115 y1203 ((rd_T95 l2 x21_1).f0)).f5, (rd_T115 y1203 ((rd_T95 l2 x21_1).f0)).f6⟩ : S115) ) (fun _ hk => hk)
                have hx45_1 := hcc45 1 _ rfl
                (try simp only [show (k115).sz = 7 from rfl, Nat.mul_one, Nat.add_zero] at hx45_1)
                have hf45_1 := hfr45 1
                (try simp only [show (k115).sz = 7 from rfl, Nat.mul_one, Nat.add_zero] at hf45_1)
                clear hcl45 hcc45 hfr45
                try go_wp2_with (first | ((with_reducible refine gate_store (t := 3) (p := 135) rfl ?_); refine store_event (t := 3) (p := 135) (v := ?vo_w46) (w1 := (w43.setCell ⟨go26, (((rd_T95 l2 x21_1).f0) : Int).toNat * 7 + 1, none⟩ (.int .i64 (wrap64 (((rd_T115 y1203 ((rd_T95 l2 x21_1).f0)).f1) + 1))))) ?hg ?ho ?hn ?hr ?_; (case ho => rfl); (case hg => rfl); (case hn => rfl); (case hr => first | (go_simp; done) | (go_simp; rfl)); intro w46 hw; have hg : w43.grownBy w46 (some go26) := (by rw [hw]; exact HP45.2); have hp_ : Kd.R k115 115 w46 w.heap.size (fun _ => True) (.slice (some ⟨go26, 0, none⟩) x9_1.length co26) y1204 := (by rw [hw, Ny1204.out]; exact HP45.1); clear HP45; replace BK1188 := dk (blk_grown (g := gb1188) (o := .cells #[.int .i64 a0_0, .int .i64 a0_1, .int .i64 a0_2, .slice A0_3 l0_3.length c0_3, .bool a0_4] 33 (0, 0)) (bk BK1188) hg (Kd.R_ne HO_9.out BK1188.out (by decide))); replace BK1193 := dk (blk_grown (g := gb1193) (o := .cells #[.int .i64 ((rd_T95 l2 x21_1).f0), .int .i64 ((rd_T95 l2 x21_1).f1), .int .i64 ((rd_T95 l2 x21_1).f2), .int .i64 ((rd_T95 l2 x21_1).f3), .int .i64 ((rd_T95 l2 x21_1).f4)] 95 (0, 0)) (bk BK1193) hg (Kd.R_ne HO_9.out BK1193.out (by decide))); replace HO_9 := dk (hp_); replace HB := dk (by rw [hw]; exact below_set (HB.out) GB26.out : Below w.heap.size w w46); clear hg hw hp_; have HX47 := dk (show Kd.R k115 115 w46 w.heap.size (fun _ => True) (.slice (some ⟨go26, 0, none⟩) x9_1.length co26) y1204 from (rr HO_9)); obtain ⟨ce47, hcl47, hM47, hcc47, hfr47⟩ := Kd.R_elem HX47.out z115 (((rd_T95 l2 x21_1).f1) : Int) (oa) (by have h_ : (((rd_T95 l2 x21_1).f1) : Int) < ((x9_1.length : Int) : Int) := oa; first | exact h_ | (have e_ := (Kd.R_reads' HO_9.out).1; omega) | simpa using h_); obtain rfl := k115_openM hM47; have HP47 := Kd.R_seg HX47.out (((rd_T95 l2 x21_1).f1) : Int) (oa) (by have h_ : (((rd_T95 l2 x21_1).f1) : Int) < ((x9_1.length : Int) : Int) := oa; first | exact h_ | (have e_ := (Kd.R_reads' HO_9.out).1; omega) | simpa using h_) (seg := [.int .i64 (wrap64 (((rd_T115 y1204 ((rd_T95 l2 x21_1).f1)).f3) + 1))]) (j := 3) hcl47 hcc47 (show 4 ≤ 7 from by decide) (x' := (⟨(rd_T115 y1204 ((rd_T95 l2 x21_1).f1)).f0, (rd_T115 y1204 ((rd_T95 l2 x21_1).f1)).f1, (rd_T115 y1204 ((rd_T95 l2 x21_1).f1)).f2, wrap64 (((rd_T115 y1204 ((rd_T95 l2 x21_1).f1)).f3) + 1), (rd_T115 y1204 ((rd_T95 l2 x21_1).f1)).f4, (rd_T115 y1204 ((rd_T95 l2 x21_1).f1)).f5, (rd_T115 y1204 ((rd_T95 l2 x21_1).f1)).f6⟩ : S115)) (k115_mkM _ _ _ (⟨(rd_T115 y1204 ((rd_T95 l2 x21_1).f1)).f0, (rd_T115 y1204 ((rd_T95 l2 x21_1).f1)).f1, (rd_T115 y1204 ((rd_T95 l2 x21_1).f1)).f2, wrap64 (((rd_T115 y1204 ((rd_T95 l2 x21_1).f1)).f3) + 1), (rd_T115 y1204 ((rd_T95 l2 x21_1).f1)).f4, (rd_T115 y1204 ((rd_T95 l2 x21_1).f1)).f5, (rd_T115 y1204 ((rd_T95 l2 x21_1).f1)).f6⟩ : S115) ) (fun _ hk => hk); have hx47_3 := hcc47 3 _ rfl; (try simp only [show (k115).sz = 7 from rfl, Nat.mul_one, Nat.add_zero] at hx47_3); have hf47_3 := hfr47 3; (try simp only [show (k115).sz = 7 from rfl, Nat.mul_one, Nat.add_zero] at hf47_3); clear hcl47 hcc47 hfr47) | ((with_reducible refine gate_store (t := 3) (p := 142) rfl ?_); refine store_event (t := 3) (p := 142) (v := ?vo_w48) (w1 := (w46.setCell ⟨go26, (((rd_T95 l2 x21_1).f1) : Int).toNat * 7 + 3, none⟩ (.int .i64 (wrap64 (((rd_T115 y1204 ((rd_T95 l2 x21_1).f1)).f3) + 1))))) ?hg ?ho ?hn ?hr ?_; (case ho => rfl); (case hg => rfl); (case hn => rfl); (case hr => first | (go_simp; done) | (go_simp; rfl)); intro w48 hw; have hg : w46.grownBy w48 (some go26) := (by rw [hw]; exact HP47.2); have hp_ : Kd.R k115 115 w48 w.heap.size (fun _ => True) (.slice (some ⟨go26, 0, none⟩) x9_1.length co26) y1205 := (by rw [hw, Ny1205.out]; exact HP47.1); clear HP47; replace BK1188 := dk (blk_grown (g := gb1188) (o := .cells #[.int .i64 a0_0, .int .i64 a0_1, .int .i64 a0_2, .slice A0_3 l0_3.length c0_3, .bool a0_4] 33 (0, 0)) (bk BK1188) hg (Kd.R_ne HO_9.out BK1188.out (by decide))); replace BK1193 := dk (blk_grown (g := gb1193) (o := .cells #[.int .i64 ((rd_T95 l2 x21_1).f0), .int .i64 ((rd_T95 l2 x21_1).f1), .int .i64 ((rd_T95 l2 x21_1).f2), .int .i64 ((rd_T95 l2 x21_1).f3), .int .i64 ((rd_T95 l2 x21_1).f4)] 95 (0, 0)) (bk BK1193) hg (Kd.R_ne HO_9.out BK1193.out (by decide))); replace HO_9 := dk (hp_); replace HB := dk (by rw [hw]; exact below_set (HB.out) GB26.out : Below w.heap.size w w48); clear hg hw hp_))
                replace HO_9 := dk (Kd.R_drew HO_9.out)
                replace BK1188 := dk (blk_drew BK1188.out)
                replace BK1193 := dk (blk_drew BK1193.out)
                replace HB := dk (below_drew1 HB.out)
                obtain ⟨ce50, hcl50, hM50, hcc50, hfr50⟩ := Kd.R_elem HO_9.out z115 (((rd_T95 l2 x21_1).f0) : Int) (oa) (by have h_ : (((rd_T95 l2 x21_1).f0) : Int) < ((x9_1.length : Int) : Int) := oa; first | exact h_ | (have e_ := (Kd.R_reads' HO_9.out).1; omega) | simpa using h_)
                obtain rfl := k115_openM hM50
                have HP50 := (Kd.R_seg HO_9.out (((rd_T95 l2 x21_1).f0) : Int) (oa) (by have h_ : (((rd_T95 l2 x21_1).f0) : Int) < ((x9_1.length : Int) : Int) := oa; first | exact h_ | (have e_ := (Kd.R_reads' HO_9.out).1; omega) | simpa using h_) (seg := [.int .i64 (wrap64 (((rd_T115 y1205 ((rd_T95 l2 x21_1).f0)).f6) + a0_0))]) (j := 6) hcl50 hcc50 (show 7 ≤ 7 from by decide) (x' := (⟨(rd_T115 y1205 ((rd_T95 l2 x21_1).f0)).f0, (rd_T115 y1205 ((rd_T95 l2 x21_1).f0)).f1, (rd_T115 y1205 ((rd_T95 l2 x21_1).f0)).f2, (rd_T115 y1205 ((rd_T95 l2 x21_1).f0)).f3, (rd_T115 y1205 ((rd_T95 l2 x21_1).f0)).f4, (rd_T115 y1205 ((rd_T95 l2 x21_1).f0)).f5, wrap64 (((rd_T115 y1205 ((rd_T95 l2 x21_1).f0)).f6) + a0_0)⟩ : S115)) (k115_mkM _ _ _ (⟨(rd_T115 y1205 ((rd_T95 l2 x21_1).f0)).f0, (rd_T115 y1205 ((rd_T95 l2 x21_1).f0)).f1, (rd_T115 y1205 ((rd_T95 l2 x21_1).f0)).f2, (rd_T115 y1205 ((rd_T95 l2 x21_1).f0)).f3, (rd_T115 y1205 ((rd_T95 l2 x21_1).f0)).f4, (rd_T115 y1205 ((rd_T95 l2 x21_1).f0)).f5, wrap64 (((rd_T115 y1205 ((rd_T95 l2 x21_1).f0)).f6) + a0_0)⟩ : S115) ) (fun _ hk => hk)).1
                rw [← Ny1206.out] at HP50
                have HQ50 := dk HP50
                have hxE := hcc50 6 _ rfl
                (try simp only [show (k115).sz = 7 from rfl, Nat.mul_one, Nat.add_zero] at hxE)
                have hfE := hfr50 6
                (try simp only [show (k115).sz = 7 from rfl, Nat.mul_one, Nat.add_zero] at hfE)
                clear hcl50 hcc50 hfr50 hM50 HP50
                refine start_ (n := 10) (S := fun w' => w'.cell? ⟨gb1188, 0, none⟩ = some (.int .i64 a0_0) ∧ w'.cell? ⟨gb1188, 1, none⟩ = some (.int .i64 a0_1) ∧ w'.cell? ⟨gb1188, 2, none⟩ = some (.int .i64 a0_2) ∧ w'.cell? ⟨gb1188, 3, none⟩ = some (.slice A0_3 l0_3.length c0_3) ∧ w'.cell? ⟨gb1188, 4, none⟩ = some (.bool a0_4) ∧ w'.cell? ⟨go26, (((rd_T95 l2 x21_1).f0) : Int).toNat * 7 + 6, none⟩ = some (.int .i64 ((rd_T115 y1205 ((rd_T95 l2 x21_1).f0))).f6) ∧ w'.frozen? ⟨go26, (((rd_T95 l2 x21_1).f0) : Int).toNat * 7 + 6, none⟩ = false) (ds := [9]) #[false, false, false, false, false, false, false, false, false, false] (by kernel_rfl) rfl rfl ⟨bc BK1188 0, bc BK1188 1, bc BK1188 2, bc BK1188 3, bc BK1188 4, hxE, hfE⟩ (fun hHeld => ?_); refine with_tabW impl_tableOfG.tab21 impl_tableOfG.bits21 (fun HT_ HW_ => ?_)
                clear hxE hfE
                generalize w48.drew = w49 at HO_9 BK1188 BK1193 HB HQ50 hHeld ⊢
                refine pz_ 0 143 ?_
                refine pz_ 1 144 ?_
                refine pz_ 2 145 ?_
                refine pz_ 4 147 ?_
                refine tk_ 3 146 ?_
                refine tk_ 5 148 ?_
                refine pz_ 6 149 ?_
                refine pz_ 7 150 ?_
                refine pz_ 8 151 ?_
                have hfE := hHeld.2.2.2.2.2.2
                refine last_ (i := 9) (N := none) #[true, true, true, true, true, true, true, true, true, true] rfl rfl (one_of HT_.out (by kernel_rfl)) (by decide) (fun K hK => ?_)
                refine skip_ (w1 := ?_) (by rfl) rfl ?_ ?_
                rotate_left
                ·go_simp
                 rfl
                refine hK.out _ _ ?_
                clear hK K
                refine done_ (done_of HT_.out (by kernel_rfl)) ?_
                try go_wp2
                have n0_ : Aside0 (Kd.R k115 115 (w49.setCell ⟨go26, (((rd_T95 l2 x21_1).f0) : Int).toNat * 7 + 6, none⟩ (.int .i64 (wrap64 (((rd_T115 y1205 ((rd_T95 l2 x21_1).f0)).f6) + a0_0)))) w.heap.size (fun _ => True) (.slice (some ⟨go26, 0, none⟩) x9_1.length co26) y1206) := ⟨rr HQ50⟩
                have n1_ : Aside0 ((w49.setCell ⟨go26, (((rd_T95 l2 x21_1).f0) : Int).toNat * 7 + 6, none⟩ (.int .i64 (wrap64 (((rd_T115 y1205 ((rd_T95 l2 x21_1).f0)).f6) + a0_0)))).heap[gb1188]? = some (.cells #[.int .i64 a0_0, .int .i64 a0_1, .int .i64 a0_2, .slice A0_3 l0_3.length c0_3, .bool a0_4] 33 (0, 0))) := ⟨bg HO_9 BK1188⟩
                have n2_ : Aside0 ((w49.setCell ⟨go26, (((rd_T95 l2 x21_1).f0) : Int).toNat * 7 + 6, none⟩ (.int .i64 (wrap64 (((rd_T115 y1205 ((rd_T95 l2 x21_1).f0)).f6) + a0_0)))).heap[gb1193]? = some (.cells #[.int .i64 ((rd_T95 l2 x21_1).f0), .int .i64 ((rd_T95 l2 x21_1).f1), .int .i64 ((rd_T95 l2 x21_1).f2), .int .i64 ((rd_T95 l2 x21_1).f3), .int .i64 ((rd_T95 l2 x21_1).f4)] 95 (0, 0))) := ⟨bg HO_9 BK1193⟩
                have n3_ : Aside0 (Below w.heap.size w (w49.setCell ⟨go26, (((rd_T95 l2 x21_1).f0) : Int).toNat * 7 + 6, none⟩ (.int .i64 (wrap64 (((rd_T115 y1205 ((rd_T95 l2 x21_1).f0)).f6) + a0_0))))) := ⟨bb HB⟩
                generalize (w49.setCell ⟨go26, (((rd_T95 l2 x21_1).f0) : Int).toNat * 7 + 6, none⟩ (.int .i64 (wrap64 (((rd_T115 y1205 ((rd_T95 l2 x21_1).f0)).f6) + a0_0)))) = w51 at n0_ n1_ n2_ n3_ ⊢
                have HO_9 := n0_
                have BK1188 := n1_
                have BK1193 := n2_
                have HB := n3_
                clear n0_ n1_ n2_ n3_
                replace HO_9 := dk (Kd.R_drew HO_9.out)
                replace BK1188 := dk (blk_drew BK1188.out)
                replace BK1193 := dk (blk_drew BK1193.out)
                replace HB := dk (below_drew1 HB.out)
                obtain ⟨ce53, hcl53, hM53, hcc53, hfr53⟩ := Kd.R_elem HO_9.out z115 (((rd_T95 l2 x21_1).f1) : Int) (oa) (by have h_ : (((rd_T95 l2 x21_1).f1) : Int) < ((x9_1.length : Int) : Int) := oa; first | exact h_ | (have e_ := (Kd.R_reads' HO_9.out).1; omega) | simpa using h_)
                obtain rfl := k115_openM hM53
                have HP53 := (Kd.R_seg HO_9.out (((rd_T95 l2 x21_1).f1) : Int) (oa) (by have h_ : (((rd_T95 l2 x21_1).f1) : Int) < ((x9_1.length : Int) : Int) := oa; first | exact h_ | (have e_ := (Kd.R_reads' HO_9.out).1; omega) | simpa using h_) (seg := [.int .i64 (wrap64 (((rd_T115 y1206 ((rd_T95 l2 x21_1).f1)).f6) + a0_2))]) (j := 6) hcl53 hcc53 (show 7 ≤ 7 from by decide) (x' := (⟨(rd_T115 y1206 ((rd_T95 l2 x21_1).f1)).f0, (rd_T115 y1206 ((rd_T95 l2 x21_1).f1)).f1, (rd_T115 y1206 ((rd_T95 l2 x21_1).f1)).f2, (rd_T115 y1206 ((rd_T95 l2 x21_1).f1)).f3, (rd_T115 y1206 ((rd_T95 l2 x21_1).f1)).f4, (rd_T115 y1206 ((rd_T95 l2 x21_1).f1)).f5, wrap64 (((rd_T115 y1206 ((rd_T95 l2 x21_1).f1)).f6) + a0_2)⟩ : S115)) (k115_mkM _ _ _ (⟨(rd_T115 y1206 ((rd_T95 l2 x21_1).f1)).f0, (rd_T115 y1206 ((rd_T95 l2 x21_1).f1)).f1, (rd_T115 y1206 ((rd_T95 l2 x21_1).f1)).f2, (rd_T115 y1206 ((rd_T95 l2 x21_1).f1)).f3, (rd_T115 y1206 ((rd_T95 l2 x21_1).f1)).f4, (rd_T115 y1206 ((rd_T95 l2 x21_1).f1)).f5, wrap64 (((rd_T115 y1206 ((rd_T95 l2 x21_1).f1)).f6) + a0_2)⟩ : S115) ) (fun _ hk => hk)).1
                rw [← Ny1207.out] at HP53
                have HQ53 := dk HP53
                have hxE := hcc53 6 _ rfl
                (try simp only [show (k115).sz = 7 from rfl, Nat.mul_one, Nat.add_zero] at hxE)
                have hfE := hfr53 6
                (try simp only [show (k115).sz = 7 from rfl, Nat.mul_one, Nat.add_zero] at hfE)
                clear hcl53 hcc53 hfr53 hM53 HP53
                refine start_ (n := 10) (S := fun w' => w'.cell? ⟨gb1188, 0, none⟩ = some (.int .i64 a0_0) ∧ w'.cell? ⟨gb1188, 1, none⟩ = some (.int .i64 a0_1) ∧ w'.cell? ⟨gb1188, 2, none⟩ = some (.int .i64 a0_2) ∧ w'.cell? ⟨gb1188, 3, none⟩ = some (.slice A0_3 l0_3.length c0_3) ∧ w'.cell? ⟨gb1188, 4, none⟩ = some (.bool a0_4) ∧ w'.cell? ⟨go26, (((rd_T95 l2 x21_1).f1) : Int).toNat * 7 + 6, none⟩ = some (.int .i64 ((rd_T115 y1206 ((rd_T95 l2 x21_1).f1))).f6) ∧ w'.frozen? ⟨go26, (((rd_T95 l2 x21_1).f1) : Int).toNat * 7 + 6, none⟩ = false) (ds := [9]) #[false, false, false, false, false, false, false, false, false, false] (by kernel_rfl) rfl rfl ⟨bc BK1188 0, bc BK1188 1, bc BK1188 2, bc BK1188 3, bc BK1188 4, hxE, hfE⟩ (fun hHeld => ?_); refine with_tabW impl_tableOfG.tab22 impl_tableOfG.bits22 (fun HT_ HW_ => ?_)
                clear hxE hfE
                generalize w51.drew = w52 at HO_9 BK1188 BK1193 HB HQ50 HQ53 hHeld ⊢
                refine pz_ 0 152 ?_
                refine pz_ 1 153 ?_
                refine pz_ 2 154 ?_
                refine pz_ 4 156 ?_
                refine tk_ 3 155 ?_
                refine tk_ 5 157 ?_
                refine pz_ 6 158 ?_
                refine pz_ 7 159 ?_
                refine pz_ 8 160 ?_
                have hfE := hHeld.2.2.2.2.2.2
                refine last_ (i := 9) (N := none) #[true, true, true, true, true, true, true, true, true, true] rfl rfl (one_of HT_.out (by kernel_rfl)) (by decide) (fun K hK => ?_)
                refine skip_ (w1 := ?_) (by rfl) rfl ?_ ?_
                rotate_left
                ·go_simp
                 rfl
                refine hK.out _ _ ?_
                clear hK K
                refine done_ (done_of HT_.out (by kernel_rfl)) ?_
                try go_wp2
                go_roundg kj12
                case measure => have := HK1.out; have := HJ12.out; omega
                case rel => exact ⟨(y1207), (wrap64 (x21_1 + 1)), e2_, H', ⟨by have := HK1.out; have := HJ12.out; omega⟩, ⟨rr HQ53⟩, ⟨bg HO_9 BK1188⟩, ⟨bb HB⟩⟩
               ·rw [if_neg c44] at H
                have c44b0 := decide_eq_false c44
                clear c44
                (first | rw [c44b0] | rw [c44b1] | (simp only [i64_w, i32_w]; rw [c44b0]) | skip)
                by_cases c54 : t1194 < t1195
                ·rw [if_pos c54] at H
                 have c54b0 := decide_eq_true c54
                 clear c54
                 obtain ⟨y1208, hy1208⟩ : ∃ y_ : List (S115), y_ = (y1203.set (((rd_T95 l2 x21_1).f1) : Int).toNat (⟨(rd_T115 y1203 ((rd_T95 l2 x21_1).f1)).f0, wrap64 (((rd_T115 y1203 ((rd_T95 l2 x21_1).f1)).f1) + 1), (rd_T115 y1203 ((rd_T95 l2 x21_1).f1)).f2, (rd_T115 y1203 ((rd_T95 l2 x21_1).f1)).f3, (rd_T115 y1203 ((rd_T95 l2 x21_1).f1)).f4, (rd_T115 y1203 ((rd_T95 l2 x21_1).f1)).f5, (rd_T115 y1203 ((rd_T95 l2 x21_1).f1)).f6⟩ : S115)) := ⟨_, rfl⟩
                 (first | (rw [Option.bind_some] at H; rw [← hy1208] at H) | rw [← hy1208] at H)
                 have Ny1208 := dk hy1208
                 clear hy1208
                 obtain ⟨y1209, hy1209⟩ : ∃ y_ : List (S115), y_ = (y1208.set (((rd_T95 l2 x21_1).f0) : Int).toNat (⟨(rd_T115 y1208 ((rd_T95 l2 x21_1).f0)).f0, (rd_T115 y1208 ((rd_T95 l2 x21_1).f0)).f1, (rd_T115 y1208 ((rd_T95 l2 x21_1).f0)).f2, wrap64 (((rd_T115 y1208 ((rd_T95 l2 x21_1).f0)).f3) + 1), (rd_T115 y1208 ((rd_T95 l2 x21_1).f0)).f4, (rd_T115 y1208 ((rd_T95 l2 x21_1).f0)).f5, (rd_T115 y1208 ((rd_T95 l2 x21_1).f0)).f6⟩ : S115)) := ⟨_, rfl⟩
                 (first | (rw [Option.bind_some] at H; rw [← hy1209] at H) | rw [← hy1209] at H)
                 have Ny1209 := dk hy1209
                 clear hy1209
                 obtain ⟨y1210, hy1210⟩ : ∃ y_ : List (S115), y_ = (y1209.set (((rd_T95 l2 x21_1).f1) : Int).toNat (⟨(rd_T115 y1209 ((rd_T95 l2 x21_1).f1)).f0, (rd_T115 y1209 ((rd_T95 l2 x21_1).f1)).f1, (rd_T115 y1209 ((rd_T95 l2 x21_1).f1)).f2, (rd_T115 y1209 ((rd_T95 l2 x21_1).f1)).f3, (rd_T115 y1209 ((rd_T95 l2 x21_1).f1)).f4, (rd_T115 y1209 ((rd_T95 l2 x21_1).f1)).f5, wrap64 (((rd_T115 y1209 ((rd_T95 l2 x21_1).f1)).f6) + a0_0)⟩ : S115)) := ⟨_, rfl⟩
                 (first | (rw [Option.bind_some] at H; rw [← hy1210] at H) | rw [← hy1210] at H)
                 have Ny1210 := dk hy1210
                 clear hy1210
                 obtain ⟨y1211, hy1211⟩ : ∃ y_ : List (S115), y_ = (y1210.set (((rd_T95 l2 x21_1).f0) : Int).toNat (⟨(rd_T115 y1210 ((rd_T95 l2 x21_1).f0)).f0, (rd_T115 y1210 ((rd_T95 l2 x21_1).f0)).f1, (rd_T115 y1210 ((rd_T95 l2 x21_1).f0)).f2, (rd_T115 y1210 ((rd_T95 l2 x21_1).f0)).f3, (rd_T115 y1210 ((rd_T95 l2 x21_1).f0)).f4, (rd_T115 y1210 ((rd_T95 l2 x21_1).f0)).f5, wrap64 (((rd_T115 y1210 ((rd_T95 l2 x21_1).f0)).f6) + a0_2)⟩ : S115)) := ⟨_, rfl⟩
                 (first | (rw [Option.bind_some] at H; rw [← hy1211] at H) | rw [← hy1211] at H)
                 have Ny1211 := dk hy1211
                 clear hy1211
                 have H' := dk H
                 clear H
                 have HX55 := dk (show Kd.R k115 115 w43 w.heap.size (fun _ => True) (.slice (some ⟨go26, 0, none⟩) x9_1.length co26) y1203 from (rr HO_9))
                 obtain ⟨ce55, hcl55, hM55, hcc55, hfr55⟩ := Kd.R_elem HX55.out z115 (((rd_T95 l2 x21_1).f1) : Int) (oa) (by have h_ : (((rd_T95 l2 x21_1).f1) : Int) < ((x9_1.length : Int) : Int) := oa; first | exact h_ | (have e_ := (Kd.R_reads' HO_9.out).1; omega) | simpa using h_)
                 obtain rfl := k115_openM hM55
                 have HP55 := Kd.R_seg HX55.out (((rd_T95 l2 x21_1).f1) : Int) (oa) (by have h_ : (((rd_T95 l2 x21_1).f1) : Int) < ((x9_1.length : Int) : Int) := oa; first | exact h_ | (have e_ := (Kd.R_reads' HO_9.out).1; omega) | simpa using h_) (seg := [.int .i64 (wrap64 (((rd_T115 y1203 ((rd_T95 l2 x21_1).f1)).f1) + 1))]) (j := 1) hcl55 hcc55 (show 2 ≤ 7 from by decide) (x' := (⟨(rd_T115 y1203 ((rd_T95 l2 x21_1).f1)).f0, wrap64 (((rd_T115 y1203 ((rd_T95 l2 x21_1).f1)).f1) + 1), (rd_T115 y1203 ((rd_T95 l2 x21_1).f1)).f2, (rd_T115 y1203 ((rd_T95 l2 x21_1).f1)).f3, (rd_T115 y1203 ((rd_T95 l2 x21_1).f1)).f4, (rd_T115 y1203 ((rd_T95 l2 x21_1).f1)).f5, (rd_T115 y1203 ((rd_T95 l2 x21_1).f1)).f6⟩ : S115)) (k115_mkM _ _ _ (⟨(rd_T115 y1203 ((rd_T95 l2 x21_1).f1)).f0, wrap64 (((rd_T115 y1203 ((rd_T95 l2 x21_1).f1)).f1) + 1), (rd_T115 y1203 ((rd_T95 l2 x21_1).f1)).f2, (rd_T115 y1203 ((rd_T95 l2 x21_1).f1)).f3, (rd_T115 y1203 ((rd_T95 l2 x21_1).f1)).f4, (rd_T115 y1203 ((rd_T95 l2 x21_1).f1)).f5, (rd_T115 y1203 ((rd_T95 l2 x21_1).f1)).f6⟩ : S115) ) (fun _ hk => hk)
                 have hx55_1 := hcc55 1 _ rfl
                 (try simp only [show (k115).sz = 7 from rfl, Nat.mul_one, Nat.add_zero] at hx55_1)
                 have hf55_1 := hfr55 1
                 (try simp only [show (k115).sz = 7 from rfl, Nat.mul_one, Nat.add_zero] at hf55_1)
                 clear hcl55 hcc55 hfr55
                 try go_wp2_with (first | ((with_reducible refine gate_store (t := 3) (p := 171) rfl ?_); refine store_event (t := 3) (p := 171) (v := ?vo_w56) (w1 := (w43.setCell ⟨go26, (((rd_T95 l2 x21_1).f1) : Int).toNat * 7 + 1, none⟩ (.int .i64 (wrap64 (((rd_T115 y1203 ((rd_T95 l2 x21_1).f1)).f1) + 1))))) ?hg ?ho ?hn ?hr ?_; (case ho => rfl); (case hg => rfl); (case hn => rfl); (case hr => first | (go_simp; done) | (go_simp; rfl)); intro w56 hw; have hg : w43.grownBy w56 (some go26) := (by rw [hw]; exact HP55.2); have hp_ : Kd.R k115 115 w56 w.heap.size (fun _ => True) (.slice (some ⟨go26, 0, none⟩) x9_1.length co26) y1208 := (by rw [hw, Ny1208.out]; exact HP55.1); clear HP55; replace BK1188 := dk (blk_grown (g := gb1188) (o := .cells #[.int .i64 a0_0, .int .i64 a0_1, .int .i64 a0_2, .slice A0_3 l0_3.length c0_3, .bool a0_4] 33 (0, 0)) (bk BK1188) hg (Kd.R_ne HO_9.out BK1188.out (by decide))); replace BK1193 := dk (blk_grown (g := gb1193) (o := .cells #[.int .i64 ((rd_T95 l2 x21_1).f0), .int .i64 ((rd_T95 l2 x21_1).f1), .int .i64 ((rd_T95 l2 x21_1).f2), .int .i64 ((rd_T95 l2 x21_1).f3), .int .i64 ((rd_T95 l2 x21_1).f4)] 95 (0, 0)) (bk BK1193) hg (Kd.R_ne HO_9.out BK1193.out (by decide))); replace HO_9 := dk (hp_); replace HB := dk (by rw [hw]; exact below_set (HB.out) GB26.out : Below w.heap.size w w56); clear hg hw hp_; have HX57 := dk (show Kd.R k115 115 w56 w.heap.size (fun _ => True) (.slice (some ⟨go26, 0, none⟩) x9_1.length co26) y1208 from (rr HO_9)); obtain ⟨ce57, hcl57, hM57, hcc57, hfr57⟩ := Kd.R_elem HX57.out z115 (((rd_T95 l2 x21_1).f0) : Int) (oa) (by have h_ : (((rd_T95 l2 x21_1).f0) : Int) < ((x9_1.length : Int) : Int) := oa; first | exact h_ | (have e_ := (Kd.R_reads' HO_9.out).1; omega) | simpa using h_); obtain rfl := k115_openM hM57; have HP57 := Kd.R_seg HX57.out (((rd_T95 l2 x21_1).f0) : Int) (oa) (by have h_ : (((rd_T95 l2 x21_1).f0) : Int) < ((x9_1.length : Int) : Int) := oa; first | exact h_ | (have e_ := (Kd.R_reads' HO_9.out).1; omega) | simpa using h_) (seg := [.int .i64 (wrap64 (((rd_T115 y1208 ((rd_T95 l2 x21_1).f0)).f3) + 1))]) (j := 3) hcl57 hcc57 (show 4 ≤ 7 from by decide) (x' := (⟨(rd_T115 y1208 ((rd_T95 l2 x21_1).f0)).f0, (rd_T115 y1208 ((rd_T95 l2 x21_1).f0)).f1, (rd_T115 y1208 ((rd_T95 l2 x21_1).f0)).f2, wrap64 (((rd_T115 y1208 ((rd_T95 l2 x21_1).f0)).f3) + 1), (rd_T115 y1208 ((rd_T95 l2 x21_1).f0)).f4, (rd_T115 y1208 ((rd_T95 l2 x21_1).f0)).f5, (rd_T115 y1208 ((rd_T95 l2 x21_1).f0)).f6⟩ : S115)) (k115_mkM _ _ _ (⟨(rd_T115 y1208 ((rd_T95 l2 x21_1).f0)).f0, (rd_T115 y1208 ((rd_T95 l2 x21_1).f0)).f1, (rd_T115 y1208 ((rd_T95 l2 x21_1).f0)).f2, wrap64 (((rd_T115 y1208 ((rd_T95 l2 x21_1).f0)).f3) + 1), (rd_T115 y1208 ((rd_T95 l2 x21_1).f0)).f4, (rd_T115 y1208 ((rd_T95 l2 x21_1).f0)).f5, (rd_T115 y1208 ((rd_T95 l2 x21_1).f0)).f6⟩ : S115) ) (fun _ hk => hk); have hx57_3 := hcc57 3 _ rfl; (try simp only [show (k115).sz = 7 from rfl, Nat.mul_one, Nat.add_zero] at hx57_3); have hf57_3 := hfr57 3; (try simp only [show (k115).sz = 7 from rfl, Nat.mul_one, Nat.add_zero] at hf57_3); clear hcl57 hcc57 hfr57) | ((with_reducible refine gate_store (t := 3) (p := 178) rfl ?_); refine store_event (t := 3) (p := 178) (v := ?vo_w58) (w1 := (w56.setCell ⟨go26, (((rd_T95 l2 x21_1).f0) : Int).toNat * 7 + 3, none⟩ (.int .i64 (wrap64 (((rd_T115 y1208 ((rd_T95 l2 x21_1).f0)).f3) + 1))))) ?hg ?ho ?hn ?hr ?_; (case ho => rfl); (case hg => rfl); (case hn => rfl); (case hr => first | (go_simp; done) | (go_simp; rfl)); intro w58 hw; have hg : w56.grownBy w58 (some go26) := (by rw [hw]; exact HP57.2); have hp_ : Kd.R k115 115 w58 w.heap.size (fun _ => True) (.slice (some ⟨go26, 0, none⟩) x9_1.length co26) y1209 := (by rw [hw, Ny1209.out]; exact HP57.1); clear HP57; replace BK1188 := dk (blk_grown (g := gb1188) (o := .cells #[.int .i64 a0_0, .int .i64 a0_1, .int .i64 a0_2, .slice A0_3 l0_3.length c0_3, .bool a0_4] 33 (0, 0)) (bk BK1188) hg (Kd.R_ne HO_9.out BK1188.out (by decide))); replace BK1193 := dk (blk_grown (g := gb1193) (o := .cells #[.int .i64 ((rd_T95 l2 x21_1).f0), .int .i64 ((rd_T95 l2 x21_1).f1), .int .i64 ((rd_T95 l2 x21_1).f2), .int .i64 ((rd_T95 l2 x21_1).f3), .int .i64 ((rd_T95 l2 x21_1).f4)] 95 (0, 0)) (bk BK1193) hg (Kd.R_ne HO_9.out BK1193.out (by decide))); replace HO_9 := dk (hp_); replace HB := dk (by rw [hw]; exact below_set (HB.out) GB26.out : Below w.heap.size w w58); clear hg hw hp_))
                 replace HO_9 := dk (Kd.R_drew HO_9.out)
                 replace BK1188 := dk (blk_drew BK1188.out)
                 replace BK1193 := dk (blk_drew BK1193.out)
                 replace HB := dk (below_drew1 HB.out)
                 obtain ⟨ce60, hcl60, hM60, hcc60, hfr60⟩ := Kd.R_elem HO_9.out z115 (((rd_T95 l2 x21_1).f1) : Int) (oa) (by have h_ : (((rd_T95 l2 x21_1).f1) : Int) < ((x9_1.length : Int) : Int) := oa; first | exact h_ | (have e_ := (Kd.R_reads' HO_9.out).1; omega) | simpa using h_)
                 obtain rfl := k115_openM hM60
                 have HP60 := (Kd.R_seg HO_9.out (((rd_T95 l2 x21_1).f1) : Int) (oa) (by have h_ : (((rd_T95 l2 x21_1).f1) : Int) < ((x9_1.length : Int) : Int) := oa; first | exact h_ | (have e_ := (Kd.R_reads' HO_9.out).1; omega) | simpa using h_) (seg := [.int .i64 (wrap64 (((rd_T115 y1209 ((rd_T95 l2 x21_1).f1)).f6) + a0_0))]) (j := 6) hcl60 hcc60 (show 7 ≤ 7 from by decide) (x' := (⟨(rd_T115 y1209 ((rd_T95 l2 x21_1).f1)).f0, (rd_T115 y1209 ((rd_T95 l2 x21_1).f1)).f1, (rd_T115 y1209 ((rd_T95 l2 x21_1).f1)).f2, (rd_T115 y1209 ((rd_T95 l2 x21_1).f1)).f3, (rd_T115 y1209 ((rd_T95 l2 x21_1).f1)).f4, (rd_T115 y1209 ((rd_T95 l2 x21_1).f1)).f5, wrap64 (((rd_T115 y1209 ((rd_T95 l2 x21_1).f1)).f6) + a0_0)⟩ : S115)) (k115_mkM _ _ _ (⟨(rd_T115 y1209 ((rd_T95 l2 x21_1).f1)).f0, (rd_T115 y1209 ((rd_T95 l2 x21_1).f1)).f1, (rd_T115 y1209 ((rd_T95 l2 x21_1).f1)).f2, (rd_T115 y1209 ((rd_T95 l2 x21_1).f1)).f3, (rd_T115 y1209 ((rd_T95 l2 x21_1).f1)).f4, (rd_T115 y1209 ((rd_T95 l2 x21_1).f1)).f5, wrap64 (((rd_T115 y1209 ((rd_T95 l2 x21_1).f1)).f6) + a0_0)⟩ : S115) ) (fun _ hk => hk)).1
                 rw [← Ny1210.out] at HP60
                 have HQ60 := dk HP60
                 have hxE := hcc60 6 _ rfl
                 (try simp only [show (k115).sz = 7 from rfl, Nat.mul_one, Nat.add_zero] at hxE)
                 have hfE := hfr60 6
                 (try simp only [show (k115).sz = 7 from rfl, Nat.mul_one, Nat.add_zero] at hfE)
                 clear hcl60 hcc60 hfr60 hM60 HP60
                 refine start_ (n := 10) (S := fun w' => w'.cell? ⟨gb1188, 0, none⟩ = some (.int .i64 a0_0) ∧ w'.cell? ⟨gb1188, 1, none⟩ = some (.int .i64 a0_1) ∧ w'.cell? ⟨gb1188, 2, none⟩ = some (.int .i64 a0_2) ∧ w'.cell? ⟨gb1188, 3, none⟩ = some (.slice A0_3 l0_3.length c0_3) ∧ w'.cell? ⟨gb1188, 4, none⟩ = some (.bool a0_4) ∧ w'.cell? ⟨go26, (((rd_T95 l2 x21_1).f1) : Int).toNat * 7 + 6, none⟩ = some (.int .i64 ((rd_T115 y1209 ((rd_T95 l2 x21_1).f1))).f6) ∧ w'.frozen? ⟨go26, (((rd_T95 l2 x21_1).f1) : Int).toNat * 7 + 6, none⟩ = false) (ds := [9]) #[false, false, false, false, false, false, false, false, false, false] (by kernel_rfl) rfl rfl ⟨bc BK1188 0, bc BK1188 1, bc BK1188 2, bc BK1188 3, bc BK1188 4, hxE, hfE⟩ (fun hHeld => ?_); refine with_tabW impl_tableOfG.tab26 impl_tableOfG.bits26 (fun HT_ HW_ => ?_)
                 clear hxE hfE
                 generalize w58.drew = w59 at HO_9 BK1188 BK1193 HB HQ60 hHeld ⊢
                 refine pz_ 0 179 ?_
                 refine pz_ 1 180 ?_
                 refine pz_ 2 181 ?_
                 refine pz_ 4 183 ?_
                 refine tk_ 3 182 ?_
                 refine tk_ 5 184 ?_
                 refine pz_ 6 185 ?_
                 refine pz_ 7 186 ?_
                 refine pz_ 8 187 ?_
                 have hfE := hHeld.2.2.2.2.2.2
                 refine last_ (i := 9) (N := none) #[true, true, true, true, true, true, true, true, true, true] rfl rfl (one_of HT_.out (by kernel_rfl)) (by decide) (fun K hK => ?_)
                 refine skip_ (w1 := ?_) (by rfl) rfl ?_ ?_
                 rotate_left
                 ·go_simp
                  rfl
                 refine hK.out _ _ ?_
                 clear hK K
                 refine done_ (done_of HT_.out (by kernel_rfl)) ?_
                 try go_wp2
                 have n0_ : Aside0 (Kd.R k115 115 (w59.setCell ⟨go26, (((rd_T95 l2 x21_1).f1) : Int).toNat * 7 + 6, none⟩ (.int .i64 (wrap64 (((rd_T115 y1209 ((rd_T95 l2 x21_1).f1)).f6) + a0_0)))) w.heap.size (fun _ => True) (.slice (some ⟨go26, 0, none⟩) x9_1.length co26) y1210) := ⟨rr HQ60⟩
                 have n1_ : Aside0 ((w59.setCell ⟨go26, (((rd_T95 l2 x21_1).f1) : Int).toNat * 7 + 6, none⟩ (.int .i64 (wrap64 (((rd_T115 y1209 ((rd_T95 l2 x21_1).f1)).f6) + a0_0)))).heap[gb1188]? = some (.cells #[.int .i64 a0_0, .int .i64 a0_1, .int .i64 a0_2, .slice A0_3 l0_3.length c0_3, .bool a0_4] 33 (0, 0))) := ⟨bg HO_9 BK1188⟩
                 have n2_ : Aside0 ((w59.setCell ⟨go26, (((rd_T95 l2 x21_1).f1) : Int).toNat * 7 + 6, none⟩ (.int .i64 (wrap64 (((rd_T115 y1209 ((rd_T95 l2 x21_1).f1)).f6) + a0_0)))).heap[gb1193]? = some (.cells #[.int .i64 ((rd_T95 l2 x21_1).f0), .int .i64 ((rd_T95 l2 x21_1).f1), .int .i64 ((rd_T95 l2 x21_1).f2), .int .i64 ((rd_T95 l2 x21_1).f3), .int .i64 ((rd_T95 l2 x21_1).f4)] 95 (0, 0))) := ⟨bg HO_9 BK1193⟩
                 have n3_ : Aside0 (Below w.heap.size w (w59.setCell ⟨go26, (((rd_T95 l2 x21_1).f1) : Int).toNat * 7 + 6, none⟩ (.int .i64 (wrap64 (((rd_T115 y1209 ((rd_T95 l2 x21_1).f1)).f6) + a0_0))))) := ⟨bb HB⟩
                 generalize (w59.setCell ⟨go26, (((rd_T95 l2 x21_1).f1) : Int).toNat * 7 + 6, none⟩ (.int .i64 (wrap64 (((rd_T115 y1209 ((rd_T95 l2 x21_1).f1)).f6) + a0_0)))) = w61 at n0_ n1_ n2_ n3_ ⊢
                 have HO_9 := n0_
                 have BK1188 := n1_
                 have BK1193 := n2_
                 have HB := n3_
                 clear n0_ n1_ n2_ n3_
                 replace HO_9 := dk (Kd.R_drew HO_9.out)
                 replace BK1188 := dk (blk_drew BK1188.out)
                 replace BK1193 := dk (blk_drew BK1193.out)
                 replace HB := dk (below_drew1 HB.out)
                 obtain ⟨ce63, hcl63, hM63, hcc63, hfr63⟩ := Kd.R_elem HO_9.out z115 (((rd_T95 l2 x21_1).f0) : Int) (oa) (by have h_ : (((rd_T95 l2 x21_1).f0) : Int) < ((x9_1.length : Int) : Int) := oa; first | exact h_ | (have e_ := (Kd.R_reads' HO_9.out).1; omega) | simpa using h_)
                 obtain rfl := k115_openM hM63
                 have HP63 := (Kd.R_seg HO_9.out (((rd_T95 l2 x21_1).f0) : Int) (oa) (by have h_ : (((rd_T95 l2 x21_1).f0) : Int) < ((x9_1.length : Int) : Int) := oa; first | exact h_ | (have e_ := (Kd.R_reads' HO_9.out).1; omega) | simpa using h_) (seg := [.int .i64 (wrap64 (((rd_T115 y1210 ((rd_T95 l2 x21_1).f0)).f6) + a0_2))]) (j := 6) hcl63 hcc63 (show 7 ≤ 7 from by decide) (x' := (⟨(rd_T115 y1210 ((rd_T95 l2 x21_1).f0)).f0, (rd_T115 y1210 ((rd_T95 l2 x21_1).f0)).f1, (rd_T115 y1210 ((rd_T95 l2 x21_1).f0)).f2, (rd_T115 y1210 ((rd_T95 l2 x21_1).f0)).f3, (rd_T115 y1210 ((rd_T95 l2 x21_1).f0)).f4, (rd_T115 y1210 ((rd_T95 l2 x21_1).f0)).f5, wrap64 (((rd_T115 y1210 ((rd_T95 l2 x21_1).f0)).f6) + a0_2)⟩ : S115)) (k115_mkM _ _ _ (⟨(rd_T115 y1210 ((rd_T95 l2 x21_1).f0)).f0, (rd_T115 y1210 ((rd_T95 l2 x21_1).f0)).f1, (rd_T115 y1210 ((rd_T95 l2 x21_1).f0)).f2, (rd_T115 y1210 ((rd_T95 l2 x21_1).f0)).f3, (rd_T115 y1210 ((rd_T95 l2 x21_1).f0)).f4, (rd_T115 y1210 ((rd_T95 l2 x21_1).f0)).f5, wrap64 (((rd_T115 y1210 ((rd_T95 l2 x21_1).f0)).f6) + a0_2)⟩ : S115) ) (fun _ hk => hk)).1
                 rw [← Ny1211.out] at HP63
                 have HQ63 := dk HP63
                 have hxE := hcc63 6 _ rfl
                 (try simp only [show (k115).sz = 7 from rfl, Nat.mul_one, Nat.add_zero] at hxE)
                 have hfE := hfr63 6
                 (try simp only [show (k115).sz = 7 from rfl, Nat.mul_one, Nat.add_zero] at hfE)
                 clear hcl63 hcc63 hfr63 hM63 HP63
                 refine start_ (n := 10) (S := fun w' => w'.cell? ⟨gb1188, 0, none⟩ = some (.int .i64 a0_0) ∧ w'.cell? ⟨gb1188, 1, none⟩ = some (.int .i64 a0_1) ∧ w'.cell? ⟨gb1188, 2, none⟩ = some (.int .i64 a0_2) ∧ w'.cell? ⟨gb1188, 3, none⟩ = some (.slice A0_3 l0_3.length c0_3) ∧ w'.cell? ⟨gb1188, 4, none⟩ = some (.bool a0_4) ∧ w'.cell? ⟨go26, (((rd_T95 l2 x21_1).f0) : Int).toNat * 7 + 6, none⟩ = some (.int .i64 ((rd_T115 y1210 ((rd_T95 l2 x21_1).f0))).f6) ∧ w'.frozen? ⟨go26, (((rd_T95 l2 x21_1).f0) : Int).toNat * 7 + 6, none⟩ = false) (ds := [9]) #[false, false, false, false, false, false, false, false, false, false] (by kernel_rfl) rfl rfl ⟨bc BK1188 0, bc BK1188 1, bc BK1188 2, bc BK1188 3, bc BK1188 4, hxE, hfE⟩ (fun hHeld => ?_); refine with_tabW impl_tableOfG.tab27 impl_tableOfG.bits27 (fun HT_ HW_ => ?_)
                 clear hxE hfE
                 generalize w61.drew = w62 at HO_9 BK1188 BK1193 HB HQ60 HQ63 hHeld ⊢
                 refine pz_ 0 188 ?_
                 refine pz_ 1 189 ?_
                 refine pz_ 2 190 ?_
                 refine pz_ 4 192 ?_
                 refine tk_ 3 191 ?_
                 refine tk_ 5 193 ?_
                 refine pz_ 6 194 ?_
                 refine pz_ 7 195 ?_
                 refine pz_ 8 196 ?_
                 have hfE := hHeld.2.2.2.2.2.2
                 refine last_ (i := 9) (N := none) #[true, true, true, true, true, true, true, true, true, true] rfl rfl (one_of HT_.out (by kernel_rfl)) (by decide) (fun K hK => ?_)
                 refine skip_ (w1 := ?_) (by rfl) rfl ?_ ?_
                 rotate_left
                 ·go_simp
                  rfl
                 refine hK.out _ _ ?_
                 clear hK K
                 refine done_ (done_of HT_.out (by kernel_rfl)) ?_
                 try go_wp2
                 go_roundg kj12
                 case measure => have := HK1.out; have := HJ12.out; omega
                 case rel => exact ⟨(y1211), (wrap64 (x21_1 + 1)), e2_, H', ⟨by have := HK1.out; have := HJ12.out; omega⟩, ⟨rr HQ63⟩, ⟨bg HO_9 BK1188⟩, ⟨bb HB⟩⟩
                ·rw [if_neg c54] at H
                 have c54b0 := decide_eq_false c54
                 clear c54
                 obtain ⟨y1212, hy1212⟩ : ∃ y_ : List (S115), y_ = (y1203.set (((rd_T95 l2 x21_1).f0) : Int).toNat (⟨(rd_T115 y1203 ((rd_T95 l2 x21_1).f0)).f0, (rd_T115 y1203 ((rd_T95 l2 x21_1).f0)).f1, wrap64 (((rd_T115 y1203 ((rd_T95 l2 x21_1).f0)).f2) + 1), (rd_T115 y1203 ((rd_T95 l2 x21_1).f0)).f3, (rd_T115 y1203 ((rd_T95 l2 x21_1).f0)).f4, (rd_T115 y1203 ((rd_T95 l2 x21_1).f0)).f5, (rd_T115 y1203 ((rd_T95 l2 x21_1).f0)).f6⟩ : S115)) := ⟨_, rfl⟩
                 (first | (rw [Option.bind_some] at H; rw [← hy1212] at H) | rw [← hy1212] at H)
                 have Ny1212 := dk hy1212
                 clear hy1212
                 obtain ⟨y1213, hy1213⟩ : ∃ y_ : List (S115), y_ = (y1212.set (((rd_T95 l2 x21_1).f1) : Int).toNat (⟨(rd_T115 y1212 ((rd_T95 l2 x21_1).f1)).f0, (rd_T115 y1212 ((rd_T95 l2 x21_1).f1)).f1, wrap64 (((rd_T115 y1212 ((rd_T95 l2 x21_1).f1)).f2) + 1), (rd_T115 y1212 ((rd_T95 l2 x21_1).f1)).f3, (rd_T115 y1212 ((rd_T95 l2 x21_1).f1)).f4, (rd_T115 y1212 ((rd_T95 l2 x21_1).f1)).f5, (rd_T115 y1212 ((rd_T95 l2 x21_1).f1)).f6⟩ : S115)) := ⟨_, rfl⟩
                 (first | (rw [Option.bind_some] at H; rw [← hy1213] at H) | rw [← hy1213] at H)
                 have Ny1213 := dk hy1213
                 clear hy1213
                 obtain ⟨y1214, hy1214⟩ : ∃ y_ : List (S115), y_ = (y1213.set (((rd_T95 l2 x21_1).f0) : Int).toNat (⟨(rd_T115 y1213 ((rd_T95 l2 x21_1).f0)).f0, (rd_T115 y1213 ((rd_T95 l2 x21_1).f0)).f1, (rd_T115 y1213 ((rd_T95 l2 x21_1).f0)).f2, (rd_T115 y1213 ((rd_T95 l2 x21_1).f0)).f3, (rd_T115 y1213 ((rd_T95 l2 x21_1).f0)).f4, (rd_T115 y1213 ((rd_T95 l2 x21_1).f0)).f5, wrap64 (((rd_T115 y1213 ((rd_T95 l2 x21_1).f0)).f6) + a0_1)⟩ : S115)) := ⟨_, rfl⟩
                 (first | (rw [Option.bind_some] at H; rw [← hy1214] at H) | rw [← hy1214] at H)
                 have Ny1214 := dk hy1214
                 clear hy1214
                 obtain ⟨y1215, hy1215⟩ : ∃ y_ : List (S115), y_ = (y1214.set (((rd_T95 l2 x21_1).f1) : Int).toNat (⟨(rd_T115 y1214 ((rd_T95 l2 x21_1).f1)).f0, (rd_T115 y1214 ((rd_T95 l2 x21_1).f1)).f1, (rd_T115 y1214 ((rd_T95 l2 x21_1).f1)).f2, (rd_T115 y1214 ((rd_T95 l2 x21_1).f1)).f3, (rd_T115 y1214 ((rd_T95 l2 x21_1).f1)).f4, (rd_T115 y1214 ((rd_T95 l2 x21_1).f1)).f5, wrap64 (((rd_T115 y1214 ((rd_T95 l2 x21_1).f1)).f6) + a0_1)⟩ : S115)) := ⟨_, rfl⟩
                 (first | (rw [Option.bind_some] at H; rw [← hy1215] at H) | rw [← hy1215] at H)
                 have Ny1215 := dk hy1215
                 clear hy1215
                 have H' := dk H
                 clear H
                 have HX64 := dk (show Kd.R k115 115 w43 w.heap.size (fun _ => True) (.slice (some ⟨go26, 0, none⟩) x9_1.length co26) y1203 from (rr HO_9))
                 obtain ⟨ce64, hcl64, hM64, hcc64, hfr64⟩ := Kd.R_elem HX64.out z115 (((rd_T95 l2 x21_1).f0) : Int) (oa) (by have h_ : (((rd_T95 l2 x21_1).f0) : Int) < ((x9_1.length : Int) : Int) := oa; first | exact h_ | (have e_ := (Kd.R_reads' HO_9.out).1; omega) | simpa using h_)
                 obtain rfl := k115_openM hM64
                 have HP64 := Kd.R_seg HX64.out (((rd_T95 l2 x21_1).f0) : Int) (oa) (by have h_ : (((rd_T95 l2 x21_1).f0) : Int) < ((x9_1.length : Int) : Int) := oa; first | exact h_ | (have e_ := (Kd.R_reads' HO_9.out).1; omega) | simpa using h_) (seg := [.int .i64 (wrap64 (((rd_T115 y1203 ((rd_T95 l2 x21_1).f0)).f2) + 1))]) (j := 2) hcl64 hcc64 (show 3 ≤ 7 from by decide) (x' := (⟨(rd_T115 y1203 ((rd_T95 l2 x21_1).f0)).f0, (rd_T115 y1203 ((rd_T95 l2 x21_1).f0)).f1, wrap64 (((rd_T115 y1203 ((rd_T95 l2 x21_1).f0)).f2) + 1), (rd_T115 y1203 ((rd_T95 l2 x21_1).f0)).f3, (rd_T115 y1203 ((rd_T95 l2 x21_1).f0)).f4, (rd_T115 y1203 ((rd_T95 l2 x21_1).f0)).f5, (rd_T115 y1203 ((rd_T95 l2 x21_1).f0)).f6⟩ : S115)) (k115_mkM _ _ _ (⟨(rd_T115 y1203 ((rd_T95 l2 x21_1).f0)).f0, (rd_T115 y1203 ((rd_T95 l2 x21_1).f0)).f1, wrap64 (((rd_T115 y1203 ((rd_T95 l2 x21_1).f0)).f2) + 1), (rd_T115 y1203 ((rd_T95 l2 x21_1).f0)).f3, (rd_T115 y1203 ((rd_T95 l2 x21_1).f0)).f4, (rd_T115 y1203 ((rd_T95 l2 x21_1).f0)).f5, (rd_T115 y1203 ((rd_T95 l2 x21_1).f0)).f6⟩ : S115) ) (fun _ hk => hk)
                 have hx64_2 := hcc64 2 _ rfl
                 (try simp only [show (k115).sz = 7 from rfl, Nat.mul_one, Nat.add_zero] at hx64_2)
                 have hf64_2 := hfr64 2
                 (try simp only [show (k115).sz = 7 from rfl, Nat.mul_one, Nat.add_zero] at hf64_2)
                 clear hcl64 hcc64 hfr64
                 try go_wp2_with (first | ((with_reducible refine gate_store (t := 3) (p := 99) rfl ?_); refine store_event (t := 3) (p := 99) (v := ?vo_w65) (w1 := (w43.setCell ⟨go26, (((rd_T95 l2 x21_1).f0) : Int).toNat * 7 + 2, none⟩ (.int .i64 (wrap64 (((rd_T115 y1203 ((rd_T95 l2 x21_1).f0)).f2) + 1))))) ?hg ?ho ?hn ?hr ?_; (case ho => rfl); (case hg => rfl); (case hn => rfl); (case hr => first | (go_simp; done) | (go_simp; rfl)); intro w65 hw; have hg : w43.grownBy w65 (some go26) := (by rw [hw]; exact HP64.2); have hp_ : Kd.R k115 115 w65 w.heap.size (fun _ => True) (.slice (some ⟨go26, 0, none⟩) x9_1.length co26) y1212 := (by rw [hw, Ny1212.out]; exact HP64.1); clear HP64; replace BK1188 := dk (blk_grown (g := gb1188) (o := .cells #[.int .i64 a0_0, .int .i64 a0_1, .int .i64 a0_2, .slice A0_3 l0_3.length c0_3, .bool a0_4] 33 (0, 0)) (bk BK1188) hg (Kd.R_ne HO_9.out BK1188.out (by decide))); replace BK1193 := dk (blk_grown (g := gb1193) (o := .cells #[.int .i64 ((rd_T95 l2 x21_1).f0), .int .i64 ((rd_T95 l2 x21_1).f1), .int .i64 ((rd_T95 l2 x21_1).f2), .int .i64 ((rd_T95 l2 x21_1).f3), .int .i64 ((rd_T95 l2 x21_1).f4)] 95 (0, 0)) (bk BK1193) hg (Kd.R_ne HO_9.out BK1193.out (by decide))); replace HO_9 := dk (hp_); replace HB := dk (by rw [hw]; exact below_set (HB.out) GB26.out : Below w.heap.size w w65); clear hg hw hp_; have HX66 := dk (show Kd.R k115 115 w65 w.heap.size (fun _ => True) (.slice (some ⟨go26, 0, none⟩) x9_1.length co26) y1212 from (rr HO_9)); obtain ⟨ce66, hcl66, hM66, hcc66, hfr66⟩ := Kd.R_elem HX66.out z115 (((rd_T95 l2 x21_1).f1) : Int) (oa) (by have h_ : (((rd_T95 l2 x21_1).f1) : Int) < ((x9_1.length : Int) : Int) := oa; first | exact h_ | (have e_ := (Kd.R_reads' HO_9.out).1; omega) | simpa using h_); obtain rfl := k115_openM hM66; have HP66 := Kd.R_seg HX66.out (((rd_T95 l2 x21_1).f1) : Int) (oa) (by have h_ : (((rd_T95 l2 x21_1).f1) : Int) < ((x9_1.length : Int) : Int) := oa; first | exact h_ | (have e_ := (Kd.R_reads' HO_9.out).1; omega) | simpa using h_) (seg := [.int .i64 (wrap64 (((rd_T115 y1212 ((rd_T95 l2 x21_1).f1)).f2) + 1))]) (j := 2) hcl66 hcc66 (show 3 ≤ 7 from by decide) (x' := (⟨(rd_T115 y1212 ((rd_T95 l2 x21_1).f1)).f0, (rd_T115 y1212 ((rd_T95 l2 x21_1).f1)).f1, wrap64 (((rd_T115 y1212 ((rd_T95 l2 x21_1).f1)).f2) + 1), (rd_T115 y1212 ((rd_T95 l2 x21_1).f1)).f3, (rd_T115 y1212 ((rd_T95 l2 x21_1).f1)).f4, (rd_T115 y1212 ((rd_T95 l2 x21_1).f1)).f5, (rd_T115 y1212 ((rd_T95 l2 x21_1).f1)).f6⟩ : S115)) (k115_mkM _ _ _ (⟨(rd_T115 y1212 ((rd_T95 l2 x21_1).f1)).f0, (rd_T115 y1212 ((rd_T95 l2 x21_1).f1)).f1, wrap64 (((rd_T115 y1212 ((rd_T95 l2 x21_1).f1)).f2) + 1), (rd_T115 y1212 ((rd_T95 l2 x21_1).f1)).f3, (rd_T115 y1212 ((rd_T95 l2 x21_1).f1)).f4, (rd_T115 y1212 ((rd_T95 l2 x21_1).f1)).f5, (rd_T115 y1212 ((rd_T95 l2 x21_1).f1)).f6⟩ : S115) ) (fun _ hk => hk); have hx66_2 := hcc66 2 _ rfl; (try simp only [show (k115).sz = 7 from rfl, Nat.mul_one, Nat.add_zero] at hx66_2); have hf66_2 := hfr66 2; (try simp only [show (k115).sz = 7 from rfl, Nat.mul_one, Nat.add_zero] at hf66_2); clear hcl66 hcc66 hfr66) | ((with_reducible refine gate_store (t := 3) (p := 106) rfl ?_); refine store_event (t := 3) (p := 106) (v := ?vo_w67) (w1 := (w65.setCell ⟨go26, (((rd_T95 l2 x21_1).f1) : Int).toNat * 7 + 2, none⟩ (.int .i64 (wrap64 (((rd_T115 y1212 ((rd_T95 l2 x21_1).f1)).f2) + 1))))) ?hg ?ho ?hn ?hr ?_; (case ho => rfl); (case hg => rfl); (case hn => rfl); (case hr => first | (go_simp; done) | (go_simp; rfl)); intro w67 hw; have hg : w65.grownBy w67 (some go26) := (by rw [hw]; exact HP66.2); have hp_ : Kd.R k115 115 w67 w.heap.size (fun _ => True) (.slice (some ⟨go26, 0, none⟩) x9_1.length co26) y1213 := (by rw [hw, Ny1213.out]; exact HP66.1); clear HP66; replace BK1188 := dk (blk_grown (g := gb1188) (o := .cells #[.int .i64 a0_0, .int .i64 a0_1, .int .i64 a0_2, .slice A0_3 l0_3.length c0_3, .bool a0_4] 33 (0, 0)) (bk BK1188) hg (Kd.R_ne HO_9.out BK1188.out (by decide))); replace BK1193 := dk (blk_grown (g := gb1193) (o := .cells #[.int .i64 ((rd_T95 l2 x21_1).f0), .int .i64 ((rd_T95 l2 x21_1).f1), .int .i64 ((rd_T95 l2 x21_1).f2), .int .i64 ((rd_T95 l2 x21_1).f3), .int .i64 ((rd_T95 l2 x21_1).f4)] 95 (0, 0)) (bk BK1193) hg (Kd.R_ne HO_9.out BK1193.out (by decide))); replace HO_9 := dk (hp_); replace HB := dk (by rw [hw]; exact below_set (HB.out) GB26.out : Below w.heap.size w w67); clear hg hw hp_))
                 replace HO_9 := dk (Kd.R_drew HO_9.out)
                 replace BK1188 := dk (blk_drew BK1188.out)
                 replace BK1193 := dk (blk_drew BK1193.out)
                 replace HB := dk (below_drew1 HB.out)
                 obtain ⟨ce69, hcl69, hM69, hcc69, hfr69⟩ := Kd.R_elem HO_9.out z115 (((rd_T95 l2 x21_1).f0) : Int) (oa) (by have h_ : (((rd_T95 l2 x21_1).f0) : Int) < ((x9_1.length : Int) : Int) := oa; first | exact h_ | (have e_ := (Kd.R_reads' HO_9.out).1; omega) | simpa using h_)
                 obtain rfl := k115_openM hM69
                 have HP69 := (Kd.R_seg HO_9.out (((rd_T95 l2 x21_1).f0) : Int) (oa) (by have h_ : (((rd_T95 l2 x21_1).f0) : Int) < ((x9_1.length : Int) : Int) := oa; first | exact h_ | (have e_ := (Kd.R_reads' HO_9.out).1; omega) | simpa using h_) (seg := [.int .i64 (wrap64 (((rd_T115 y1213 ((rd_T95 l2 x21_1).f0)).f6) + a0_1))]) (j := 6) hcl69 hcc69 (show 7 ≤ 7 from by decide) (x' := (⟨(rd_T115 y1213 ((rd_T95 l2 x21_1).f0)).f0, (rd_T115 y1213 ((rd_T95 l2 x21_1).f0)).f1, (rd_T115 y1213 ((rd_T95 l2 x21_1).f0)).f2, (rd_T115 y1213 ((rd_T95 l2 x21_1).f0)).f3, (rd_T115 y1213 ((rd_T95 l2 x21_1).f0)).f4, (rd_T115 y1213 ((rd_T95 l2 x21_1).f0)).f5, wrap64 (((rd_T115 y1213 ((rd_T95 l2 x21_1).f0)).f6) + a0_1)⟩ : S115)) (k115_mkM _ _ _ (⟨(rd_T115 y1213 ((rd_T95 l2 x21_1).f0)).f0, (rd_T115 y1213 ((rd_T95 l2 x21_1).f0)).f1, (rd_T115 y1213 ((rd_T95 l2 x21_1).f0)).f2, (rd_T115 y1213 ((rd_T95 l2 x21_1).f0)).f3, (rd_T115 y1213 ((rd_T95 l2 x21_1).f0)).f4, (rd_T115 y1213 ((rd_T95 l2 x21_1).f0)).f5, wrap64 (((rd_T115 y1213 ((rd_T95 l2 x21_1).f0)).f6) + a0_1)⟩ : S115) ) (fun _ hk => hk)).1
                 rw [← Ny1214.out] at HP69
                 have HQ69 := dk HP69
                 have hxE := hcc69 6 _ rfl
                 (try simp only [show (k115).sz = 7 from rfl, Nat.mul_one, Nat.add_zero] at hxE)
                 have hfE := hfr69 6
                 (try simp only [show (k115).sz = 7 from rfl, Nat.mul_one, Nat.add_zero] at hfE)
                 clear hcl69 hcc69 hfr69 hM69 HP69
                 refine start_ (n := 10) (S := fun w' => w'.cell? ⟨gb1188, 0, none⟩ = some (.int .i64 a0_0) ∧ w'.cell? ⟨gb1188, 1, none⟩ = some (.int .i64 a0_1) ∧ w'.cell? ⟨gb1188, 2, none⟩ = some (.int .i64 a0_2) ∧ w'.cell? ⟨gb1188, 3, none⟩ = some (.slice A0_3 l0_3.length c0_3) ∧ w'.cell? ⟨gb1188, 4, none⟩ = some (.bool a0_4) ∧ w'.cell? ⟨go26, (((rd_T95 l2 x21_1).f0) : Int).toNat * 7 + 6, none⟩ = some (.int .i64 ((rd_T115 y1213 ((rd_T95 l2 x21_1).f0))).f6) ∧ w'.frozen? ⟨go26, (((rd_T95 l2 x21_1).f0) : Int).toNat * 7 + 6, none⟩ = false) (ds := [9]) #[false, false, false, false, false, false, false, false, false, false] (by kernel_rfl) rfl rfl ⟨bc BK1188 0, bc BK1188 1, bc BK1188 2, bc BK1188 3, bc BK1188 4, hxE, hfE⟩ (fun hHeld => ?_); refine with_tabW impl_tableOfG.tab16 impl_tableOfG.bits16 (fun HT_ HW_ => ?_)
                 clear hxE hfE
                 generalize w67.drew = w68 at HO_9 BK1188 BK1193 HB HQ69 hHeld ⊢
                 refine pz_ 0 107 ?_
                 refine pz_ 1 108 ?_
                 refine pz_ 2 109 ?_
                 refine pz_ 4 111 ?_
                 refine tk_ 3 110 ?_
                 refine tk_ 5 112 ?_
                 refine pz_ 6 113 ?_
                 refine pz_ 7 114 ?_
                 refine pz_ 8 115 ?_
                 have hfE := hHeld.2.2.2.2.2.2
                 refine last_ (i := 9) (N := none) #[true, true, true, true, true, true, true, true, true, true] rfl rfl (one_of HT_.out (by kernel_rfl)) (by decide) (fun K hK => ?_)
                 refine skip_ (w1 := ?_) (by rfl) rfl ?_ ?_
                 rotate_left
                 ·go_simp
                  rfl
                 refine hK.out _ _ ?_
                 clear hK K
                 refine done_ (done_of HT_.out (by kernel_rfl)) ?_
                 try go_wp2
                 have n0_ : Aside0 (Kd.R k115 115 (w68.setCell ⟨go26, (((rd_T95 l2 x21_1).f0) : Int).toNat * 7 + 6, none⟩ (.int .i64 (wrap64 (((rd_T115 y1213 ((rd_T95 l2 x21_1).f0)).f6) + a0_1)))) w.heap.size (fun _ => True) (.slice (some ⟨go26, 0, none⟩) x9_1.length co26) y1214) := ⟨rr HQ69⟩
                 have n1_ : Aside0 ((w68.setCell ⟨go26, (((rd_T95 l2 x21_1).f0) : Int).toNat * 7 + 6, none⟩ (.int .i64 (wrap64 (((rd_T115 y1213 ((rd_T95 l2 x21_1).f0)).f6) + a0_1)))).heap[gb1188]? = some (.cells #[.int .i64 a0_0, .int .i64 a0_1, .int .i64 a0_2, .slice A0_3 l0_3.length c0_3, .bool a0_4] 33 (0, 0))) := ⟨bg HO_9 BK1188⟩
                 have n2_ : Aside0 ((w68.setCell ⟨go26, (((rd_T95 l2 x21_1).f0) : Int).toNat * 7 + 6, none⟩ (.int .i64 (wrap64 (((rd_T115 y1213 ((rd_T95 l2 x21_1).f0)).f6) + a0_1)))).heap[gb1193]? = some (.cells #[.int .i64 ((rd_T95 l2 x21_1).f0), .int .i64 ((rd_T95 l2 x21_1).f1), .int .i64 ((rd_T95 l2 x21_1).f2), .int .i64 ((rd_T95 l2 x21_1).f3), .int .i64 ((rd_T95 l2 x21_1).f4)] 95 (0, 0))) := ⟨bg HO_9 BK1193⟩
                 have n3_ : Aside0 (Below w.heap.size w (w68.setCell ⟨go26, (((rd_T95 l2 x21_1).f0) : Int).toNat * 7 + 6, none⟩ (.int .i64 (wrap64 (((rd_T115 y1213 ((rd_T95 l2 x21_1).f0)).f6) + a0_1))))) := ⟨bb HB⟩
                 generalize (w68.setCell ⟨go26, (((rd_T95 l2 x21_1).f0) : Int).toNat * 7 + 6, none⟩ (.int .i64 (wrap64 (((rd_T115 y1213 ((rd_T95 l2 x21_1).f0)).f6) + a0_1)))) = w70 at n0_ n1_ n2_ n3_ ⊢
                 have HO_9 := n0_
                 have BK1188 := n1_
                 have BK1193 := n2_
                 have HB := n3_
                 clear n0_ n1_ n2_ n3_
                 replace HO_9 := dk (Kd.R_drew HO_9.out)
                 replace BK1188 := dk (blk_drew BK1188.out)
                 replace BK1193 := dk (blk_drew BK1193.out)
                 replace HB := dk (below_drew1 HB.out)
                 obtain ⟨ce72, hcl72, hM72, hcc72, hfr72⟩ := Kd.R_elem HO_9.out z115 (((rd_T95 l2 x21_1).f1) : Int) (oa) (by have h_ : (((rd_T95 l2 x21_1).f1) : Int) < ((x9_1.length : Int) : Int) := oa; first | exact h_ | (have e_ := (Kd.R_reads' HO_9.out).1; omega) | simpa using h_)
                 obtain rfl := k115_openM hM72
                 have HP72 := (Kd.R_seg HO_9.out (((rd_T95 l2 x21_1).f1) : Int) (oa) (by have h_ : (((rd_T95 l2 x21_1).f1) : Int) < ((x9_1.length : Int) : Int) := oa; first | exact h_ | (have e_ := (Kd.R_reads' HO_9.out).1; omega) | simpa using h_) (seg := [.int .i64 (wrap64 (((rd_T115 y1214 ((rd_T95 l2 x21_1).f1)).f6) + a0_1))]) (j := 6) hcl72 hcc72 (show 7 ≤ 7 from by decide) (x' := (⟨(rd_T115 y1214 ((rd_T95 l2 x21_1).f1)).f0, (rd_T115 y1214 ((rd_T95 l2 x21_1).f1)).f1, (rd_T115 y1214 ((rd_T95 l2 x21_1).f1)).f2, (rd_T115 y1214 ((rd_T95 l2 x21_1).f1)).f3, (rd_T115 y1214 ((rd_T95 l2 x21_1).f1)).f4, (rd_T115 y1214 ((rd_T95 l2 x21_1).f1)).f5, wrap64 (((rd_T115 y1214 ((rd_T95 l2 x21_1).f1)).f6) + a0_1)⟩ : S115)) (k115_mkM _ _ _ (⟨(rd_T115 y1214 ((rd_T95 l2 x21_1).f1)).f0, (rd_T115 y1214 ((rd_T95 l2 x21_1).f1)).f1, (rd_T115 y1214 ((rd_T95 l2 x21_1).f1)).f2, (rd_T115 y1214 ((rd_T95 l2 x21_1).f1)).f3, (rd_T115 y1214 ((rd_T95 l2 x21_1).f1)).f4, (rd_T115 y1214 ((rd_T95 l2 x21_1).f1)).f5, wrap64 (((rd_T115 y1214 ((rd_T95 l2 x21_1).f1)).f6) + a0_1)⟩ : S115) ) (fun _ hk => hk)).1
                 rw [← Ny1215.out] at HP72
                 have HQ72 := dk HP72
                 have hxE := hcc72 6 _ rfl
                 (try simp only [show (k115).sz = 7 from rfl, Nat.mul_one, Nat.add_zero] at hxE)
                 have hfE := hfr72 6
                 (try simp only [show (k115).sz = 7 from rfl, Nat.mul_one, Nat.add_zero] at hfE)
                 clear hcl72 hcc72 hfr72 hM72 HP72
                 refine start_ (n := 10) (S := fun w' => w'.cell? ⟨gb1188, 0, none⟩ = some (.int .i64 a0_0) ∧ w'.cell? ⟨gb1188, 1, none⟩ = some (.int .i64 a0_1) ∧ w'.cell? ⟨gb1188, 2, none⟩ = some (.int .i64 a0_2) ∧ w'.cell? ⟨gb1188, 3, none⟩ = some (.slice A0_3 l0_3.length c0_3) ∧ w'.cell? ⟨gb1188, 4, none⟩ = some (.bool a0_4) ∧ w'.cell? ⟨go26, (((rd_T95 l2 x21_1).f1) : Int).toNat * 7 + 6, none⟩ = some (.int .i64 ((rd_T115 y1214 ((rd_T95 l2 x21_1).f1))).f6) ∧ w'.frozen? ⟨go26, (((rd_T95 l2 x21_1).f1) : Int).toNat * 7 + 6, none⟩ = false) (ds := [9]) #[false, false, false, false, false, false, false, false, false, false] (by kernel_rfl) rfl rfl ⟨bc BK1188 0, bc BK1188 1, bc BK1188 2, bc BK1188 3, bc BK1188 4, hxE, hfE⟩ (fun hHeld => ?_); refine with_tabW impl_tableOfG.tab17 impl_tableOfG.bits17 (fun HT_ HW_ => ?_)
                 clear hxE hfE
                 generalize w70.drew = w71 at HO_9 BK1188 BK1193 HB HQ69 HQ72 hHeld ⊢
                 refine pz_ 0 116 ?_
                 refine pz_ 1 117 ?_
                 refine pz_ 2 118 ?_
                 refine pz_ 4 120 ?_
                 refine tk_ 3 119 ?_
                 refine tk_ 5 121 ?_
                 refine pz_ 6 122 ?_
                 refine pz_ 7 123 ?_
                 refine pz_ 8 124 ?_
                 have hfE := hHeld.2.2.2.2.2.2
                 refine last_ (i := 9) (N := none) #[true, true, true, true, true, true, true, true, true, true] rfl rfl (one_of HT_.out (by kernel_rfl)) (by decide) (fun K hK => ?_)
                 refine skip_ (w1 := ?_) (by rfl) rfl ?_ ?_
                 rotate_left
                 ·go_simp
                  rfl
                 refine hK.out _ _ ?_
                 clear hK K
                 refine done_ (done_of HT_.out (by kernel_rfl)) ?_
                 try go_wp2
                 go_roundg kj12
                 case measure => have := HK1.out; have := HJ12.out; omega
                 case rel => exact ⟨(y1215), (wrap64 (x21_1 + 1)), e2_, H', ⟨by have := HK1.out; have := HJ12.out; omega⟩, ⟨rr HQ72⟩, ⟨bg HO_9 BK1188⟩, ⟨bb HB⟩⟩
              ·rw [if_neg c28] at H
               exact absurd H (by simp)
             ·rw [if_neg c27] at H
              exact absurd H (by simp)
            ·rw [if_neg c25] at H
             exact absurd H (by simp)
           ·rw [if_neg c24] at H
            exact absurd H (by simp)
       ·rw [if_neg c11] at H
        exact absurd H (by simp)
      ·rw [if_neg c10] at H
       exact absurd H (by simp)
     ·rw [if_neg c9] at H
      have c9b0 := decide_eq_false c9
      clear c9
      obtain rfl := Option.some.inj H
      go_wp2
      go_ret
      exact ⟨_, ee, rr HO_9, bb HB⟩
  ·rw [if_neg c5] at H
   exact absurd H (by simp)
 ·rw [if_neg c4] at H
  exact absurd H (by simp)
def impl_tableOf.f (k : Nat) (a0_0 : Int) (a0_1 : Int) (a0_2 : Int) (l0_3 : List Int) (a0_4 : Bool) (a1 : Int) (l2 : List (S95)) : Option ((List (S115))) := impl_tableOfG.f (fun _ => true) k a0_0 a0_1 a0_2 l0_3 a0_4 a1 l2
set_option maxHeartbeats 4000000 in
theorem impl_rankerOf_1.calls (x : S95) (W : World) : Calls Try.prog 136 #[.agg #[.int .i64 x.f0, .int .i64 x.f1, .int .i64 x.f2, .int .i64 x.f3, .int .i64 x.f4]] W fun e w' => e = .returned (.bool true) ∧ Below W.heap.size W w' := by
 go_enter Try.func136, Try.ntmps136
 go_wp2_with fail
 go_ret
 exact ⟨rfl, below_alloc (Below.refl _ _) _⟩
theorem impl_tableOf.calls (k : Nat) (a0_0 : Int) (a0_1 : Int) (a0_2 : Int) (A0_3 : Option Addr) (c0_3 : Nat) (l0_3 : List Int) (a0_4 : Bool) (a1 : Int) (A2 : Option Addr) (c2 : Nat) (l2 : List (S95)) (r : List (S115)) (w : World) (hr0_3 : Kd.C (Kd.int .i64) w A0_3 l0_3.length l0_3) (hc0_3 : l0_3.length ≤ c0_3) (hr2 : Kd.C k95 w A2 l2.length l2) (hc2 : l2.length ≤ c2) (h : impl_tableOf.f k a0_0 a0_1 a0_2 l0_3 a0_4 a1 l2 = some r) :
  Calls Try.prog 135 #[.agg #[.int .i64 a0_0, .int .i64 a0_1, .int .i64 a0_2, .slice A0_3 l0_3.length c0_3, .bool a0_4], .int .i64 a1, .slice A2 l2.length c2, .func (.func 136) #[] #[]] w fun e w' => ∃ v0_ : Value, e = .returned (v0_) ∧ Kd.R k115 115 w' w.heap.size (fun _ => True) v0_ r ∧ Below w.heap.size w w' :=
 impl_tableOfG.calls (fun _ => true) 136 #[] (my_enters Try.func136 (by kernel_rfl) rfl) k a0_0 a0_1 a0_2 A0_3 c0_3 l0_3 a0_4 a1 A2 c2 l2 r w hr0_3 hc0_3 hr2 hc2 (fun W x _ => impl_rankerOf_1.calls x W) h
end Go.Proofs.Ythfefanapneocaa.Q
end
namespace Go.Proofs.Ythfefanapneocaa.Q
open Go.RowKit Go.Proofs.YthfefanapneocaaW.PrintWords Go.Proofs.YthfefanapneocaaW.PrintLast Go.Proofs.YthfefanapneocaaW.PrintMore
attribute [local go_sem] max2_int min2_int max_two min_two max_three min_three max_four min_four
set_option linter.unusedVariables false
set_option linter.unusedSimpArgs false
set_option maxRecDepth 100000
set_option maxHeartbeats 8000000
def impl_rankerOf.f (k : Nat) (l0_0 : List (S139)) (a0_1 : Int) (a0_2 : Int) (a0_3 : Int) (l0_4 : List Int) (a0_5 : Bool) (l0_6 : List (S95)) (l0_7 : List Int) (l0_8 : List Int) : Option (List (S115)) := impl_tableOf.f k a0_1 a0_2 a0_3 l0_4 a0_5 (l0_0.length : Int) l0_6
def impl_rankerOf.T1 : Bool × List (List Nat × List Nat) := (true, [([], []), ([], []), ([1], [1]), ([], []), ([3], [3]), ([4], [4]), ([], []), ([6], [6]), ([2, 5, 7], [2, 5, 7]), ([0, 8], [0, 8]), ([9, 8, 0, 1, 2, 3, 4, 5, 6, 7, 8, 9], [9])])
def impl_rankerOf.B1 : List Nat := [0, 0, 2, 0, 8, 24, 0, 64, 254, 511, 1023]
theorem impl_rankerOf.tab1 : rtab .any (opsOf Try.f83 1) = impl_rankerOf.T1 := by kernel_rfl
theorem impl_rankerOf.bits1 : waitsOk impl_rankerOf.T1.2 impl_rankerOf.B1 = true := by kernel_rfl
set_option maxHeartbeats 4000000 in
theorem impl_rankerOf.calls (k : Nat) (A0_0 : Option Addr) (c0_0 : Nat) (l0_0 : List (S139)) (a0_1 : Int) (a0_2 : Int) (a0_3 : Int) (A0_4 : Option Addr) (c0_4 : Nat) (l0_4 : List Int) (a0_5 : Bool) (A0_6 : Option Addr) (c0_6 : Nat) (l0_6 : List (S95)) (A0_7 : Option Addr) (c0_7 : Nat) (l0_7 : List Int) (A0_8 : Option Addr) (c0_8 : Nat) (l0_8 : List Int) (r : List (S115)) (w : World) (hr0_0 : Kd.C k139 w A0_0 l0_0.length l0_0) (hc0_0 : l0_0.length ≤ c0_0) (hr0_4 : Kd.C (Kd.int .i64) w A0_4 l0_4.length l0_4) (hc0_4 : l0_4.length ≤ c0_4) (hr0_6 : Kd.C k95 w A0_6 l0_6.length l0_6) (hc0_6 : l0_6.length ≤ c0_6) (hr0_7 : Kd.C (Kd.int .i64) w A0_7 l0_7.length l0_7) (hc0_7 : l0_7.length ≤ c0_7) (hr0_8 : Kd.C (Kd.int .i64) w A0_8 l0_8.length l0_8) (hc0_8 : l0_8.length ≤ c0_8) (h : impl_rankerOf.f k l0_0 a0_1 a0_2 a0_3 l0_4 a0_5 l0_6 l0_7 l0_8 = some r) :
    Calls Try.prog 83 #[.agg #[.slice A0_0 l0_0.length c0_0, .int .i64 a0_1, .int .i64 a0_2, .int .i64 a0_3, .slice A0_4 l0_4.length c0_4, .bool a0_5, .slice A0_6 l0_6.length c0_6, .slice A0_7 l0_7.length c0_7, .slice A0_8 l0_8.length c0_8]] w fun e w' => ∃ v0_ : Value, e = .returned (.agg #[.slice A0_0 l0_0.length c0_0, .int .i64 a0_1, .int .i64 a0_2, .int .i64 a0_3, .slice A0_4 l0_4.length c0_4, .bool a0_5, .slice A0_6 l0_6.length c0_6, .slice A0_7 l0_7.length c0_7, .slice A0_8 l0_8.length c0_8, v0_]) ∧ Kd.R k115 115 w' w.heap.size (fun _ => True) v0_ r ∧ Below w.heap.size w w' := by
 have hu36 := Try.underlying36
 have hu117 := Try.underlying117
 have hu33 := Try.underlying33
 unfold impl_rankerOf.f at h
 have HT := dk h
 have R4 := dk hr0_4
 have C4 := dk hc0_4
 have R6 := dk hr0_6
 have C6 := dk hc0_6
 clear h hr0_0 hc0_0 hr0_4 hc0_4 hr0_6 hc0_6 hr0_7 hc0_7 hr0_8 hc0_8
 have HB := hb0 w
 go_enter Try.func83, Try.ntmps83
 try go_wp2_with (first
   | ((with_reducible refine gdst_ 1 rfl ?_); refine bx (N := 1) (cs := #[.slice A0_0 l0_0.length c0_0, .int .i64 a0_1, .int .i64 a0_2, .int .i64 a0_3, .slice A0_4 l0_4.length c0_4, .bool a0_5, .slice A0_6 l0_6.length c0_6, .slice A0_7 l0_7.length c0_7, .slice A0_8 l0_8.length c0_8]) (t := 36) ?_; intro ga hg w8 hbox hb; have BK612 := dk (hbox); have GE612 := gs hg HB; replace HB := hs_ HB hb; clear hb hbox hg)
   | ((with_reducible refine gdst_ 2 rfl ?_); refine bx (N := 2) (cs := #[.slice none 0 0, .int .i64 0, .int .i64 0, .int .i64 0, .slice none 0 0, .bool false, .slice none 0 0, .slice none 0 0, .slice none 0 0, .slice none 0 0]) (t := 117) ?_; intro gb hg w9 hbox hb; have NB612_613 := gn hg BK612; have NB613_612 := gm hg BK612; replace BK612 := kb BK612 hb; have BK613 := dk (hbox); have GE613 := gs hg HB; replace HB := hs_ HB hb; clear hb hbox hg))
 replace BK612 := dk (blk_drew BK612.out)
 replace BK613 := dk (blk_drew BK613.out)
 replace HB := dk (below_drew1 HB.out)
 refine start_ (n := 11) (S := fun w' => w'.cell? ⟨ga, 0, none⟩ = some (.slice A0_0 l0_0.length c0_0) ∧ w'.cell? ⟨ga, 1, none⟩ = some (.int .i64 a0_1) ∧ w'.cell? ⟨ga, 2, none⟩ = some (.int .i64 a0_2) ∧ w'.cell? ⟨ga, 3, none⟩ = some (.int .i64 a0_3) ∧ w'.cell? ⟨ga, 4, none⟩ = some (.slice A0_4 l0_4.length c0_4) ∧ w'.cell? ⟨ga, 5, none⟩ = some (.bool a0_5) ∧ w'.cell? ⟨ga, 6, none⟩ = some (.slice A0_6 l0_6.length c0_6) ∧ w'.cell? ⟨ga, 7, none⟩ = some (.slice A0_7 l0_7.length c0_7) ∧ w'.cell? ⟨ga, 8, none⟩ = some (.slice A0_8 l0_8.length c0_8)) (ds := []) #[false, false, false, false, false, false, false, false, false, false, false] (by kernel_rfl) rfl rfl ⟨bc BK612 0, bc BK612 1, bc BK612 2, bc BK612 3, bc BK612 4, bc BK612 5, bc BK612 6, bc BK612 7, bc BK612 8⟩ (fun hHeld => ?_); refine with_tabW impl_rankerOf.tab1 impl_rankerOf.bits1 (fun HT_ HW_ => ?_)
 generalize w9.drew = w10 at BK612 BK613 HB hHeld ⊢
 refine pz_ 1 4 ?_
 refine pz_ 3 6 ?_
 refine pz_ 6 9 ?_
 refine tk_ 0 3 ?_
 refine tk_ 2 5 ?_
 refine tk_ 4 7 ?_
 refine pz_ 5 8 ?_
 refine tk_ 7 10 ?_
 refine on_ 8 (some 11) (fun K hK => ?_)
 refine ga_ Try.func135 #[.agg #[.int .i64 a0_1, .int .i64 a0_2, .int .i64 a0_3, .slice A0_4 l0_4.length c0_4, .bool a0_5], .int .i64 (l0_0.length : Int), .slice A0_6 l0_6.length c0_6, .func (.func 136) #[] #[]] ?_
 with_reducible refine (impl_tableOf.calls k a0_1 a0_2 a0_3 _ _ l0_4 a0_5 (l0_0.length : Int) _ _ l0_6 r _ ?side1 ?side2 ?side3 ?side4 HT.out).mono ?_
 (case side1 => exact cc R4 HB)
 (case side2 => exact C4.out)
 (case side3 => exact cc R6 HB)
 (case side4 => exact C6.out)
 rintro e w11 ⟨v615, rfl, ho0, hb⟩
 refine ⟨_, rfl, ?_⟩
 have HO616 := kl ho0 HB
 replace BK612 := kb BK612 hb
 replace BK613 := kb BK613 hb
 replace HB := hs_ HB hb
 obtain ⟨Ao12, co12, eo12⟩ := Kd.R_slice HO616.out
 (first | subst eo12 | (injection eo12 with f1_ f2_ f3_; have f4_ := f1_.symm; have f5_ := f3_.symm; clear f1_ f2_ f3_; subst f4_; subst f5_))
 refine hK.out _ _ ⟨bc BK612 0, bc BK612 1, bc BK612 2, bc BK612 3, bc BK612 4, bc BK612 5, bc BK612 6, bc BK612 7, bc BK612 8⟩ (fun hHeld => ?_)
 clear hK K
 refine no_ ?_
 refine pz_ 9 12 ?_
 refine on_ 10 none (fun K hK => ?_)
 have hs13 : w11.cell? ⟨gb, 0, none⟩ = some (.slice none 0 0) := bc BK613 0
 have hfs13 := blk_frozen BK613.out 0
 have hns13_0 := NB612_613.out
 have hms13_0 := NB613_612.out
 have hs14 : w11.cell? ⟨gb, 1, none⟩ = some (.int .i64 0) := bc BK613 1
 have hfs14 := blk_frozen BK613.out 1
 have hns14_0 := NB612_613.out
 have hms14_0 := NB613_612.out
 have hs15 : w11.cell? ⟨gb, 2, none⟩ = some (.int .i64 0) := bc BK613 2
 have hfs15 := blk_frozen BK613.out 2
 have hns15_0 := NB612_613.out
 have hms15_0 := NB613_612.out
 have hs16 : w11.cell? ⟨gb, 3, none⟩ = some (.int .i64 0) := bc BK613 3
 have hfs16 := blk_frozen BK613.out 3
 have hns16_0 := NB612_613.out
 have hms16_0 := NB613_612.out
 have hs17 : w11.cell? ⟨gb, 4, none⟩ = some (.slice none 0 0) := bc BK613 4
 have hfs17 := blk_frozen BK613.out 4
 have hns17_0 := NB612_613.out
 have hms17_0 := NB613_612.out
 have hs18 : w11.cell? ⟨gb, 5, none⟩ = some (.bool false) := bc BK613 5
 have hfs18 := blk_frozen BK613.out 5
 have hns18_0 := NB612_613.out
 have hms18_0 := NB613_612.out
 have hs19 : w11.cell? ⟨gb, 6, none⟩ = some (.slice none 0 0) := bc BK613 6
 have hfs19 := blk_frozen BK613.out 6
 have hns19_0 := NB612_613.out
 have hms19_0 := NB613_612.out
 have hs20 : w11.cell? ⟨gb, 7, none⟩ = some (.slice none 0 0) := bc BK613 7
 have hfs20 := blk_frozen BK613.out 7
 have hns20_0 := NB612_613.out
 have hms20_0 := NB613_612.out
 have hs21 : w11.cell? ⟨gb, 8, none⟩ = some (.slice none 0 0) := bc BK613 8
 have hfs21 := blk_frozen BK613.out 8
 have hns21_0 := NB612_613.out
 have hms21_0 := NB613_612.out
 have hs22 : w11.cell? ⟨gb, 9, none⟩ = some (.slice none 0 0) := bc BK613 9
 have hfs22 := blk_frozen BK613.out 9
 have hns22_0 := NB612_613.out
 have hms22_0 := NB613_612.out
 refine skip_ (w1 := ?_) (by rfl) rfl ?_ ?_
 rotate_left
 ·go_simp
  rfl
 refine hK.out _ _ ?_ (fun hHeld => ?_)
 ·exact rb9 ⟨bf NB612_613.out BK612⟩
 clear hK K
 refine done_ (done_of HT_.out (by kernel_rfl)) ?_
 try go_wp2
 refine bodyPost_ret (results_cell_row rfl _ _ gb 117 #[.slice A0_0 l0_0.length c0_0, .int .i64 a0_1, .int .i64 a0_2, .int .i64 a0_3, .slice A0_4 l0_4.length c0_4, .bool a0_5, .slice A0_6 l0_6.length c0_6, .slice A0_7 l0_7.length c0_7, .slice A0_8 l0_8.length c0_8, .slice Ao12 r.length co12] (0, 0) _ rfl (bp BK613) Try.underlying117 rfl (by kernel_rfl)) rfl ?_
 exact ⟨_, rfl, rf HO616 BK613 (fun _ hk => hk.1), bb HB⟩
theorem fieldTable92_ (a0 a1 a2 a3 a4 a5 a6 a7 a8 v : Value) (w : World) : (Instr.field 117 (.agg #[a0, a1, a2, a3, a4, a5, a6, a7, a8, v]) 1).run Try.prog w = .ok v w := by
 have hu := Try.underlying117
 unfold Instr.field
 go_simp
 simp [asAgg]
attribute [local go_sem] fieldTable92_
def impl_points.l0 : Nat → List Int → List (S115) → Int → Int → List (S139) → Int → Int → Int → List Int → Bool → List (S95) → List Int → List Int → Option (List Int)
 | 0, _, _, _, _, _, _, _, _, _, _, _, _, _ => none
 | k + 1, x3, x9, x10, x11, x1492000, x1492001, x1492002, x1492003, x1492004, x1492005, x1492006, x1492007, x1492008 => if x11 < x10 then (if 0 ≤ x11 then (if x11 < (x9.length : Int) then (if x11 < (x1492008.length : Int) then (if x3.length < 17592186044416 then (impl_points.l0 k (x3 ++ [wrap64 (((rd_T115 x9 x11).f6) - (rd x1492008 x11))]) x9 x10 (wrap64 (x11 + 1)) x1492000 x1492001 x1492002 x1492003 x1492004 x1492005 x1492006 x1492007 x1492008) else (none)) else (none)) else (none)) else (none)) else (some x3)
def impl_points.f (k : Nat) (l0_0 : List (S139)) (a0_1 : Int) (a0_2 : Int) (a0_3 : Int) (l0_4 : List Int) (a0_5 : Bool) (l0_6 : List (S95)) (l0_7 : List Int) (l0_8 : List Int) : Option (List Int) := (impl_rankerOf.f k l0_0 a0_1 a0_2 a0_3 l0_4 a0_5 l0_6 l0_7 l0_8).bind fun t1495 => (impl_points.l0 k (([] : List Int)) t1495 (t1495.length : Int) 0 l0_0 a0_1 a0_2 a0_3 l0_4 a0_5 l0_6 l0_7 l0_8)
def impl_points.T5 : Bool × List (List Nat × List Nat) := (true, [([], []), ([], []), ([1], [1]), ([], []), ([3], [3]), ([], []), ([4, 5], [4, 5]), ([6], [6]), ([2, 7], [2, 7]), ([8], [8]), ([0, 9], [0, 9]), ([10, 10, 0, 1, 2, 3, 4, 5, 6, 7, 8, 9, 10], [0, 10])])
def impl_points.B5 : List Nat := [0, 0, 2, 0, 8, 0, 56, 120, 254, 510, 1023, 2047]
theorem impl_points.tab5 : rtab .any (opsOf Try.f92 5) = impl_points.T5 := by kernel_rfl
theorem impl_points.bits5 : waitsOk impl_points.T5.2 impl_points.B5 = true := by kernel_rfl
theorem impl_points.calls (k : Nat) (A0_0 : Option Addr) (c0_0 : Nat) (l0_0 : List (S139)) (a0_1 : Int) (a0_2 : Int) (a0_3 : Int) (A0_4 : Option Addr) (c0_4 : Nat) (l0_4 : List Int) (a0_5 : Bool) (A0_6 : Option Addr) (c0_6 : Nat) (l0_6 : List (S95)) (A0_7 : Option Addr) (c0_7 : Nat) (l0_7 : List Int) (A0_8 : Option Addr) (c0_8 : Nat) (l0_8 : List Int) (r : List Int) (w : World) (hr0_0 : Kd.C k139 w A0_0 l0_0.length l0_0) (hc0_0 : l0_0.length ≤ c0_0) (hr0_4 : Kd.C (Kd.int .i64) w A0_4 l0_4.length l0_4) (hc0_4 : l0_4.length ≤ c0_4) (hr0_6 : Kd.C k95 w A0_6 l0_6.length l0_6) (hc0_6 : l0_6.length ≤ c0_6) (hr0_7 : Kd.C (Kd.int .i64) w A0_7 l0_7.length l0_7) (hc0_7 : l0_7.length ≤ c0_7) (hr0_8 : Kd.C (Kd.int .i64) w A0_8 l0_8.length l0_8) (hc0_8 : l0_8.length ≤ c0_8) (h : impl_points.f k l0_0 a0_1 a0_2 a0_3 l0_4 a0_5 l0_6 l0_7 l0_8 = some r) :
  Calls Try.prog 92 #[.agg #[.slice A0_0 l0_0.length c0_0, .int .i64 a0_1, .int .i64 a0_2, .int .i64 a0_3, .slice A0_4 l0_4.length c0_4, .bool a0_5, .slice A0_6 l0_6.length c0_6, .slice A0_7 l0_7.length c0_7, .slice A0_8 l0_8.length c0_8]] w fun e w' => ∃ v0_ : Value, e = .returned (v0_) ∧ Kd.R (Kd.int .i64) 3 w' w.heap.size (fun _ => True) v0_ r ∧ Below w.heap.size w w' := by
 have hu117 := Try.underlying117
 have hu36 := Try.underlying36
 have hu115 := Try.underlying115
 have HR0_0 := dk hr0_0
 have HC0_0 := dk hc0_0
 clear hr0_0 hc0_0
 have HR0_4 := dk hr0_4
 have HC0_4 := dk hc0_4
 clear hr0_4 hc0_4
 have HR0_6 := dk hr0_6
 have HC0_6 := dk hc0_6
 clear hr0_6 hc0_6
 have HR0_7 := dk hr0_7
 have HC0_7 := dk hc0_7
 clear hr0_7 hc0_7
 have HR0_8 := dk hr0_8
 have HC0_8 := dk hc0_8
 clear hr0_8 hc0_8
 have HB := hb0 w
 have H : ((impl_rankerOf.f k l0_0 a0_1 a0_2 a0_3 l0_4 a0_5 l0_6 l0_7 l0_8).bind fun t1495 => (impl_points.l0 k (([] : List Int)) t1495 (t1495.length : Int) 0 l0_0 a0_1 a0_2 a0_3 l0_4 a0_5 l0_6 l0_7 l0_8)) = some r := h
 clear h
 obtain ⟨y1492, hy1492⟩ : ∃ y_ : List Int, y_ = (([] : List Int)) := ⟨_, rfl⟩
 replace H : ((impl_rankerOf.f k l0_0 a0_1 a0_2 a0_3 l0_4 a0_5 l0_6 l0_7 l0_8).bind fun t1495 => (impl_points.l0 k y1492 t1495 (t1495.length : Int) 0 l0_0 a0_1 a0_2 a0_3 l0_4 a0_5 l0_6 l0_7 l0_8)) = some r := by first | (rw [hy1492]; with_reducible exact H) | (have H2_ := (Option.bind_some _ _).symm.trans H; rw [hy1492]; with_reducible exact H2_) | (have H2_ := (Option.bind_some _ _).symm.trans H; with_reducible exact H2_) | with_reducible exact H | (rw [hy1492]; exact H) | exact H
 have Ny1492 := dk hy1492
 clear hy1492
 replace H := Option.bind_eq_some_iff.mp H
 obtain ⟨t1495, A20, H⟩ := H
 try dsimp only at H
 have A2 := dk A20
 clear A20
 have H' := dk H
 clear H
 go_enter Try.func92, Try.ntmps92
 go_wp2_with (first | ((with_reducible refine gdst_ 1 rfl ?_); refine bx (N := 1) (cs := #[.slice A0_0 l0_0.length c0_0, .int .i64 a0_1, .int .i64 a0_2, .int .i64 a0_3, .slice A0_4 l0_4.length c0_4, .bool a0_5, .slice A0_6 l0_6.length c0_6, .slice A0_7 l0_7.length c0_7, .slice A0_8 l0_8.length c0_8]) (t := 36) ?_; intro gb1491 hg w3 hbox hb; have BK1491 := dk (hbox); have GW1491 := gs hg HB; have GE1491 := gs hg HB; replace HB := hs_ HB hb; clear hb hbox hg) | ((with_reducible refine gdst_ 6 rfl ?_); refine Kd.R_lit (Kd.int .i64) _ 3 ?hg (N := 6) ?hd (xs := ([] : List Int)) (inner := []) (ok := fun _ => True) (okp := fun _ => True) ?hr ?hp (fun _ hk => hk) trivial (Below.refl _ _) (Nat.le_refl _) (by simp) ?_; (case hd => rfl); (case hg => rfl); (case hr => first | (go_simp; done) | (go_simp; rfl)); (case hp => exact (Reps.none _ _)); intro v1493 w4 ho5 hb hg_ hnew_; clear hg_ hnew_; (first | rw [← Ny1492.out] at ho5 | (simp only [Int.reduceToNat] at ho5; rw [← Ny1492.out] at ho5)); have HO1494 := kl ho5 HB; replace BK1491 := kb BK1491 hb; replace HB := hs_ HB hb; clear hb ho5; have ⟨z6_0, z6_1, z6_2, z6_3, z6_4, z6_5, z6_6, z6_7, z6_8, v6_0, v6_1, v6_2, v6_3, v6_4, v6_5, v6_6, v6_7, v6_8⟩ := rz9 BK1491) | ((with_reducible refine gcallee_ 83 rfl ?_); refine gl (some 8) Try.func83 #[.agg #[.slice A0_0 l0_0.length c0_0, .int .i64 a0_1, .int .i64 a0_2, .int .i64 a0_3, .slice A0_4 l0_4.length c0_4, .bool a0_5, .slice A0_6 l0_6.length c0_6, .slice A0_7 l0_7.length c0_7, .slice A0_8 l0_8.length c0_8]] ?_; (with_reducible refine (impl_rankerOf.calls k _ _ l0_0 a0_1 a0_2 a0_3 _ _ l0_4 a0_5 _ _ l0_6 _ _ l0_7 _ _ l0_8 t1495 _ ?side1 ?side2 ?side3 ?side4 ?side5 ?side6 ?side7 ?side8 ?side9 ?side10 A2.out).mono ?_); (case side1 => exact cc HR0_0 HB); (case side2 => exact HC0_0.out); (case side3 => exact cc HR0_4 HB); (case side4 => exact HC0_4.out); (case side5 => exact cc HR0_6 HB); (case side6 => exact HC0_6.out); (case side7 => exact cc HR0_7 HB); (case side8 => exact HC0_7.out); (case side9 => exact cc HR0_8 HB); (case side10 => exact HC0_8.out); rintro e w7 ⟨v1496, rfl, ho0, hb⟩; refine ⟨_, rfl, ?_⟩; replace HO1494 := kr HO1494 hb; have HO1497 := kl ho0 HB; replace BK1491 := kb BK1491 hb; replace HB := hs_ HB hb; obtain ⟨Ao8, co8, eo8⟩ := Kd.R_slice HO1497.out; subst eo8))
 go_loopg [3, 11] k (fun kq v3 v11 w' => ∃ (x3_1 : List Int) (x11_1 : Int), v11 = .int .i64 x11_1 ∧ Aside0 (impl_points.l0 kq x3_1 t1495 (t1495.length : Int) x11_1 l0_0 a0_1 a0_2 a0_3 l0_4 a0_5 l0_6 l0_7 l0_8 = some r) ∧ Aside0 (kq ≤ k) ∧ Aside0 (Kd.R (Kd.int .i64) 3 w' w.heap.size (fun _ => True) v3 x3_1) ∧ Aside0 (Kd.R k115 115 w' w.heap.size (fun _ => True) (.slice Ao8 t1495.length co8) t1495) ∧ Aside0 (w'.heap[gb1491]? = some (.cells #[(.slice A0_0 l0_0.length c0_0), .int .i64 a0_1, .int .i64 a0_2, .int .i64 a0_3, (.slice A0_4 l0_4.length c0_4), .bool a0_5, (.slice A0_6 l0_6.length c0_6), (.slice A0_7 l0_7.length c0_7), (.slice A0_8 l0_8.length c0_8)] 36 (0, 0))) ∧ Aside0 (Below w.heap.size w w'))
 case atStart => exact ⟨(y1492), (0), e2_, H', ⟨Nat.le_refl _⟩, ⟨rr HO1494⟩, ⟨rr HO1497⟩, ⟨bk BK1491⟩, ⟨bb HB⟩⟩
 case round =>
  clear H'
  obtain ⟨x3_1, x11_1, rfl, HA, HK1, HO_3, HO_9, BK1491, HB⟩ := hrel
  cases gk with
  | zero => exact absurd HA.out (by simp [impl_points.l0])
  | succ k1 =>
   have H := HA.out
   clear HA
   simp only [impl_points.l0] at H
   by_cases c9 : x11_1 < (t1495.length : Int)
   ·rw [if_pos c9] at H
    have c9b0 := decide_eq_true c9
    clear c9
    by_cases c10 : 0 ≤ x11_1
    ·rw [if_pos c10] at H
     have c10b0 := decide_eq_true c10
     clear c10
     by_cases c11 : x11_1 < (t1495.length : Int)
     ·rw [if_pos c11] at H
      have c11b0 := decide_eq_true c11
      clear c11
      by_cases c12 : x11_1 < (l0_8.length : Int)
      ·rw [if_pos c12] at H
       have c12b0 := decide_eq_true c12
       clear c12
       by_cases c13 : x3_1.length < 17592186044416
       ·rw [if_pos c13] at H
        have LMc13 := dk c13
        clear c13
        obtain ⟨y1501, hy1501⟩ : ∃ y_ : List Int, y_ = (x3_1 ++ [wrap64 (((rd_T115 t1495 x11_1).f6) - (rd l0_8 x11_1))]) := ⟨_, rfl⟩
        replace H : (impl_points.l0 k1 y1501 t1495 (t1495.length : Int) (wrap64 (x11_1 + 1)) l0_0 a0_1 a0_2 a0_3 l0_4 a0_5 l0_6 l0_7 l0_8) = some r := by first | (rw [hy1501]; with_reducible exact H) | (have H2_ := (Option.bind_some _ _).symm.trans H; rw [hy1501]; with_reducible exact H2_) | (have H2_ := (Option.bind_some _ _).symm.trans H; with_reducible exact H2_) | with_reducible exact H | (rw [hy1501]; exact H) | exact H
        have Ny1501 := dk hy1501
        clear hy1501
        have H' := dk H
        clear H
        have p1498 : 0 ≤ (x11_1 : Int) := oa
        have q1498 : x11_1 < (t1495.length : Int) := oa
        obtain ⟨ad1498, e1498, hx1498_0, hx1498_1, hx1498_2, hx1498_3, hx1498_4, hx1498_5, hx1498_6⟩ := at_T115 (Kd.R_reads' HO_9.out).2.2 x11_1 p1498 q1498
        cases e1498
        replace p1498 := eq_true p1498
        replace q1498 := eq_true q1498
        try go_wp2_with (first | ((with_reducible refine gdst_ 5 rfl ?_); refine bx (N := 5) (cs := #[.int .i64 0, .int .i64 0, .int .i64 0, .int .i64 0, .int .i64 0, .int .i64 0, .int .i64 0]) (t := 115) ?_; intro gb1499 hg w14 hbox hb; replace HO_3 := kr HO_3 hb; replace HO_9 := dk (Kd.R_below (Kd.R_elderB (rr HO_9) gb1499 (Nat.le_of_eq hg.symm)) hb); have BK1499 := dk (hbox); have GW1499 := gs hg HB; have GE1499 := gs hg HB; replace HB := hs_ HB hb; have NB1491_1499 := gn hg BK1491; have NB1499_1491 := gm hg BK1491; replace BK1491 := kb BK1491 hb; clear hb hbox hg; have hnb15 := NB1499_1491.out; have hnc15 := NB1491_1499.out; have ⟨z16_0, z16_1, z16_2, z16_3, z16_4, z16_5, z16_6, v16_0, v16_1, v16_2, v16_3, v16_4, v16_5, v16_6⟩ := rz7 BK1499))
        have n0_ : Aside0 (Kd.R (Kd.int .i64) 3 (((((((w14.setCell ⟨gb1499, 0, none⟩ (.int .i64 ((rd_T115 t1495 x11_1).f0))).setCell ⟨gb1499, 1, none⟩ (.int .i64 ((rd_T115 t1495 x11_1).f1))).setCell ⟨gb1499, 2, none⟩ (.int .i64 ((rd_T115 t1495 x11_1).f2))).setCell ⟨gb1499, 3, none⟩ (.int .i64 ((rd_T115 t1495 x11_1).f3))).setCell ⟨gb1499, 4, none⟩ (.int .i64 ((rd_T115 t1495 x11_1).f4))).setCell ⟨gb1499, 5, none⟩ (.int .i64 ((rd_T115 t1495 x11_1).f5))).setCell ⟨gb1499, 6, none⟩ (.int .i64 ((rd_T115 t1495 x11_1).f6))) w.heap.size (fun _ => True) u3 x3_1) := ⟨rf HO_3 BK1499 (fun _ hk => trivial)⟩
        have n1_ : Aside0 (Kd.R k115 115 (((((((w14.setCell ⟨gb1499, 0, none⟩ (.int .i64 ((rd_T115 t1495 x11_1).f0))).setCell ⟨gb1499, 1, none⟩ (.int .i64 ((rd_T115 t1495 x11_1).f1))).setCell ⟨gb1499, 2, none⟩ (.int .i64 ((rd_T115 t1495 x11_1).f2))).setCell ⟨gb1499, 3, none⟩ (.int .i64 ((rd_T115 t1495 x11_1).f3))).setCell ⟨gb1499, 4, none⟩ (.int .i64 ((rd_T115 t1495 x11_1).f4))).setCell ⟨gb1499, 5, none⟩ (.int .i64 ((rd_T115 t1495 x11_1).f5))).setCell ⟨gb1499, 6, none⟩ (.int .i64 ((rd_T115 t1495 x11_1).f6))) w.heap.size (fun k_ => k_ ≠ gb1499) (.slice (some ad1498) t1495.length co8) t1495) := ⟨by (with_reducible repeat (first | apply Kd.R_alloc | apply Kd.R_drewN | apply Kd.R_drew)); exact Kd.R_mono (Kd.R_far (p := ⟨gb1499, 6, none⟩) (Kd.R_far (p := ⟨gb1499, 5, none⟩) (Kd.R_far (p := ⟨gb1499, 4, none⟩) (Kd.R_far (p := ⟨gb1499, 3, none⟩) (Kd.R_far (p := ⟨gb1499, 2, none⟩) (Kd.R_far (p := ⟨gb1499, 1, none⟩) (Kd.R_far (p := ⟨gb1499, 0, none⟩) (Kd.R_mono HO_9.out (fun k_ hk => (⟨hk, hk.2⟩ : _ ∧ k_ ≠ gb1499))) (fun _ hk => hk.2) (.int .i64 ((rd_T115 t1495 x11_1).f0))) (fun _ hk => hk.2) (.int .i64 ((rd_T115 t1495 x11_1).f1))) (fun _ hk => hk.2) (.int .i64 ((rd_T115 t1495 x11_1).f2))) (fun _ hk => hk.2) (.int .i64 ((rd_T115 t1495 x11_1).f3))) (fun _ hk => hk.2) (.int .i64 ((rd_T115 t1495 x11_1).f4))) (fun _ hk => hk.2) (.int .i64 ((rd_T115 t1495 x11_1).f5))) (fun _ hk => hk.2) (.int .i64 ((rd_T115 t1495 x11_1).f6))) (fun _ hk => hk.1.2)⟩
        have n2_ : Aside0 ((((((((w14.setCell ⟨gb1499, 0, none⟩ (.int .i64 ((rd_T115 t1495 x11_1).f0))).setCell ⟨gb1499, 1, none⟩ (.int .i64 ((rd_T115 t1495 x11_1).f1))).setCell ⟨gb1499, 2, none⟩ (.int .i64 ((rd_T115 t1495 x11_1).f2))).setCell ⟨gb1499, 3, none⟩ (.int .i64 ((rd_T115 t1495 x11_1).f3))).setCell ⟨gb1499, 4, none⟩ (.int .i64 ((rd_T115 t1495 x11_1).f4))).setCell ⟨gb1499, 5, none⟩ (.int .i64 ((rd_T115 t1495 x11_1).f5))).setCell ⟨gb1499, 6, none⟩ (.int .i64 ((rd_T115 t1495 x11_1).f6))).heap[gb1491]? = some (.cells #[.slice A0_0 l0_0.length c0_0, .int .i64 a0_1, .int .i64 a0_2, .int .i64 a0_3, .slice A0_4 l0_4.length c0_4, .bool a0_5, .slice A0_6 l0_6.length c0_6, .slice A0_7 l0_7.length c0_7, .slice A0_8 l0_8.length c0_8] 36 (0, 0))) := ⟨bf NB1491_1499.out BK1491⟩
        have n3_ : Aside0 ((((((((w14.setCell ⟨gb1499, 0, none⟩ (.int .i64 ((rd_T115 t1495 x11_1).f0))).setCell ⟨gb1499, 1, none⟩ (.int .i64 ((rd_T115 t1495 x11_1).f1))).setCell ⟨gb1499, 2, none⟩ (.int .i64 ((rd_T115 t1495 x11_1).f2))).setCell ⟨gb1499, 3, none⟩ (.int .i64 ((rd_T115 t1495 x11_1).f3))).setCell ⟨gb1499, 4, none⟩ (.int .i64 ((rd_T115 t1495 x11_1).f4))).setCell ⟨gb1499, 5, none⟩ (.int .i64 ((rd_T115 t1495 x11_1).f5))).setCell ⟨gb1499, 6, none⟩ (.int .i64 ((rd_T115 t1495 x11_1).f6))).heap[gb1499]? = some (.cells #[.int .i64 ((rd_T115 t1495 x11_1).f0), .int .i64 ((rd_T115 t1495 x11_1).f1), .int .i64 ((rd_T115 t1495 x11_1).f2), .int .i64 ((rd_T115 t1495 x11_1).f3), .int .i64 ((rd_T115 t1495 x11_1).f4), .int .i64 ((rd_T115 t1495 x11_1).f5), .int .i64 ((rd_T115 t1495 x11_1).f6)] 115 (0, 0))) := ⟨by (with_reducible repeat (first | refine blk_drewN ?_ _ | refine blk_drew ?_ | refine blk_alloc ?_ _)); refine blk_put (cs := #[.int .i64 ((rd_T115 t1495 x11_1).f0), .int .i64 ((rd_T115 t1495 x11_1).f1), .int .i64 ((rd_T115 t1495 x11_1).f2), .int .i64 ((rd_T115 t1495 x11_1).f3), .int .i64 ((rd_T115 t1495 x11_1).f4), .int .i64 ((rd_T115 t1495 x11_1).f5), .int .i64 0]) ?_ 6 _ rfl; (with_reducible repeat (first | refine blk_drewN ?_ _ | refine blk_drew ?_ | refine blk_alloc ?_ _)); refine blk_put (cs := #[.int .i64 ((rd_T115 t1495 x11_1).f0), .int .i64 ((rd_T115 t1495 x11_1).f1), .int .i64 ((rd_T115 t1495 x11_1).f2), .int .i64 ((rd_T115 t1495 x11_1).f3), .int .i64 ((rd_T115 t1495 x11_1).f4), .int .i64 0, .int .i64 0]) ?_ 5 _ rfl; (with_reducible repeat (first | refine blk_drewN ?_ _ | refine blk_drew ?_ | refine blk_alloc ?_ _)); refine blk_put (cs := #[.int .i64 ((rd_T115 t1495 x11_1).f0), .int .i64 ((rd_T115 t1495 x11_1).f1), .int .i64 ((rd_T115 t1495 x11_1).f2), .int .i64 ((rd_T115 t1495 x11_1).f3), .int .i64 0, .int .i64 0, .int .i64 0]) ?_ 4 _ rfl; (with_reducible repeat (first | refine blk_drewN ?_ _ | refine blk_drew ?_ | refine blk_alloc ?_ _)); refine blk_put (cs := #[.int .i64 ((rd_T115 t1495 x11_1).f0), .int .i64 ((rd_T115 t1495 x11_1).f1), .int .i64 ((rd_T115 t1495 x11_1).f2), .int .i64 0, .int .i64 0, .int .i64 0, .int .i64 0]) ?_ 3 _ rfl; (with_reducible repeat (first | refine blk_drewN ?_ _ | refine blk_drew ?_ | refine blk_alloc ?_ _)); refine blk_put (cs := #[.int .i64 ((rd_T115 t1495 x11_1).f0), .int .i64 ((rd_T115 t1495 x11_1).f1), .int .i64 0, .int .i64 0, .int .i64 0, .int .i64 0, .int .i64 0]) ?_ 2 _ rfl; (with_reducible repeat (first | refine blk_drewN ?_ _ | refine blk_drew ?_ | refine blk_alloc ?_ _)); refine blk_put (cs := #[.int .i64 ((rd_T115 t1495 x11_1).f0), .int .i64 0, .int .i64 0, .int .i64 0, .int .i64 0, .int .i64 0, .int .i64 0]) ?_ 1 _ rfl; (with_reducible repeat (first | refine blk_drewN ?_ _ | refine blk_drew ?_ | refine blk_alloc ?_ _)); refine blk_put (cs := #[.int .i64 0, .int .i64 0, .int .i64 0, .int .i64 0, .int .i64 0, .int .i64 0, .int .i64 0]) ?_ 0 _ rfl; (with_reducible repeat (first | refine blk_drewN ?_ _ | refine blk_drew ?_ | refine blk_alloc ?_ _)); exact BK1499.out⟩
        have n4_ : Aside0 (Below w.heap.size w (((((((w14.setCell ⟨gb1499, 0, none⟩ (.int .i64 ((rd_T115 t1495 x11_1).f0))).setCell ⟨gb1499, 1, none⟩ (.int .i64 ((rd_T115 t1495 x11_1).f1))).setCell ⟨gb1499, 2, none⟩ (.int .i64 ((rd_T115 t1495 x11_1).f2))).setCell ⟨gb1499, 3, none⟩ (.int .i64 ((rd_T115 t1495 x11_1).f3))).setCell ⟨gb1499, 4, none⟩ (.int .i64 ((rd_T115 t1495 x11_1).f4))).setCell ⟨gb1499, 5, none⟩ (.int .i64 ((rd_T115 t1495 x11_1).f5))).setCell ⟨gb1499, 6, none⟩ (.int .i64 ((rd_T115 t1495 x11_1).f6)))) := ⟨bb HB⟩
        generalize (((((((w14.setCell ⟨gb1499, 0, none⟩ (.int .i64 ((rd_T115 t1495 x11_1).f0))).setCell ⟨gb1499, 1, none⟩ (.int .i64 ((rd_T115 t1495 x11_1).f1))).setCell ⟨gb1499, 2, none⟩ (.int .i64 ((rd_T115 t1495 x11_1).f2))).setCell ⟨gb1499, 3, none⟩ (.int .i64 ((rd_T115 t1495 x11_1).f3))).setCell ⟨gb1499, 4, none⟩ (.int .i64 ((rd_T115 t1495 x11_1).f4))).setCell ⟨gb1499, 5, none⟩ (.int .i64 ((rd_T115 t1495 x11_1).f5))).setCell ⟨gb1499, 6, none⟩ (.int .i64 ((rd_T115 t1495 x11_1).f6))) = w17 at n0_ n1_ n2_ n3_ n4_ ⊢
        have HO_3 := n0_
        have HO_9 := n1_
        have BK1491 := n2_
        have BK1499 := n3_
        have HB := n4_
        clear n0_ n1_ n2_ n3_ n4_
        replace HO_3 := dk (Kd.R_drew HO_3.out)
        replace HO_9 := dk (Kd.R_drew HO_9.out)
        replace BK1491 := dk (blk_drew BK1491.out)
        replace BK1499 := dk (blk_drew BK1499.out)
        replace HB := dk (below_drew1 HB.out)
        have p1500 : 0 ≤ (x11_1 : Int) := oa
        have q1500 : x11_1 < (l0_8.length : Int) := oa
        obtain ⟨ad1500, e1500, hx1500_0⟩ := Kd.at_int HR0_8.out x11_1 p1500 q1500
        have hw1500_0 := hx1500_0
        cases e1500
        replace hx1500_0 := hc HB hx1500_0
        replace p1500 := eq_true p1500
        replace q1500 := eq_true q1500
        refine start_ (n := 12) (S := fun w' => w'.cell? ⟨gb1499, 0, none⟩ = some (.int .i64 ((rd_T115 t1495 x11_1).f0)) ∧ w'.cell? ⟨gb1499, 1, none⟩ = some (.int .i64 ((rd_T115 t1495 x11_1).f1)) ∧ w'.cell? ⟨gb1499, 2, none⟩ = some (.int .i64 ((rd_T115 t1495 x11_1).f2)) ∧ w'.cell? ⟨gb1499, 3, none⟩ = some (.int .i64 ((rd_T115 t1495 x11_1).f3)) ∧ w'.cell? ⟨gb1499, 4, none⟩ = some (.int .i64 ((rd_T115 t1495 x11_1).f4)) ∧ w'.cell? ⟨gb1499, 5, none⟩ = some (.int .i64 ((rd_T115 t1495 x11_1).f5)) ∧ w'.cell? ⟨gb1499, 6, none⟩ = some (.int .i64 ((rd_T115 t1495 x11_1).f6)) ∧ w'.cell? ⟨gb1491, 0, none⟩ = some (.slice A0_0 l0_0.length c0_0) ∧ w'.cell? ⟨gb1491, 1, none⟩ = some (.int .i64 a0_1) ∧ w'.cell? ⟨gb1491, 2, none⟩ = some (.int .i64 a0_2) ∧ w'.cell? ⟨gb1491, 3, none⟩ = some (.int .i64 a0_3) ∧ w'.cell? ⟨gb1491, 4, none⟩ = some (.slice A0_4 l0_4.length c0_4) ∧ w'.cell? ⟨gb1491, 5, none⟩ = some (.bool a0_5) ∧ w'.cell? ⟨gb1491, 6, none⟩ = some (.slice A0_6 l0_6.length c0_6) ∧ w'.cell? ⟨gb1491, 7, none⟩ = some (.slice A0_7 l0_7.length c0_7) ∧ w'.cell? ⟨gb1491, 8, none⟩ = some (.slice (some ad1500) l0_8.length c0_8) ∧ w'.cell? (ad1500.add (x11_1).toNat) = some (.int .i64 (rd l0_8 x11_1))) (ds := []) #[false, false, false, false, false, false, false, false, false, false, false, false] (by kernel_rfl) rfl rfl ⟨bc BK1499 0, bc BK1499 1, bc BK1499 2, bc BK1499 3, bc BK1499 4, bc BK1499 5, bc BK1499 6, bc BK1491 0, bc BK1491 1, bc BK1491 2, bc BK1491 3, bc BK1491 4, bc BK1491 5, bc BK1491 6, bc BK1491 7, bc BK1491 8, (hc HB hw1500_0)⟩ (fun hHeld => ?_); refine with_tabW impl_points.tab5 impl_points.bits5 (fun HT_ HW_ => ?_)
        generalize w17.drew = w18 at HO_3 HO_9 BK1491 BK1499 HB hx1500_0 hHeld ⊢
        refine pz_ 0 16 ?_
        refine pz_ 1 17 ?_
        refine pz_ 3 19 ?_
        refine pz_ 5 21 ?_
        refine tk_ 2 18 ?_
        refine tk_ 4 20 ?_
        refine pz_ 6 22 ?_
        refine tk_ 7 23 ?_
        refine pz_ 8 24 ?_
        refine on_ 9 (some 25) (fun K hK => ?_)
        refine value_ (w1 := ?_) (v := ?_) (by rfl) rfl ?_ ?_
        rotate_left 2
        ·go_simp
         constructor
         ·rfl
         ·rfl
        refine hK.out _ _ ⟨(blk_cell (blk_alloc BK1499.out _) 0).trans rfl, (blk_cell (blk_alloc BK1499.out _) 1).trans rfl, (blk_cell (blk_alloc BK1499.out _) 2).trans rfl, (blk_cell (blk_alloc BK1499.out _) 3).trans rfl, (blk_cell (blk_alloc BK1499.out _) 4).trans rfl, (blk_cell (blk_alloc BK1499.out _) 5).trans rfl, (blk_cell (blk_alloc BK1499.out _) 6).trans rfl, (blk_cell (blk_alloc BK1491.out _) 0).trans rfl, (blk_cell (blk_alloc BK1491.out _) 1).trans rfl, (blk_cell (blk_alloc BK1491.out _) 2).trans rfl, (blk_cell (blk_alloc BK1491.out _) 3).trans rfl, (blk_cell (blk_alloc BK1491.out _) 4).trans rfl, (blk_cell (blk_alloc BK1491.out _) 5).trans rfl, (blk_cell (blk_alloc BK1491.out _) 6).trans rfl, (blk_cell (blk_alloc BK1491.out _) 7).trans rfl, (blk_cell (blk_alloc BK1491.out _) 8).trans rfl, (World.cell?_alloc_lt _ _ _ (World.block_lt_of_cell? _ _ ((hc HB hw1500_0)))).trans ((hc HB hw1500_0))⟩ (fun hHeld => ?_)
        clear hK K
        refine no_ ?_
        refine on_ 10 (some 26) (fun K hK => ?_)
        refine Kd.R_append_step (Kd.int .i64) (w0 := w) w.heap.size (by rfl) (.tmp 16) (.tmp 25) 23 3 (.int .i64 0) 8 rfl Try.underlying23 info3 rfl (by decide) (by omega) u3 x3_1 (wrap64 (((rd_T115 t1495 x11_1).f6) - (rd l0_8 x11_1))) [.int .i64 (wrap64 (((rd_T115 t1495 x11_1).f6) - (rd l0_8 x11_1)))] (fun _ => True) (fun _ => False) rfl rfl ?aP (fun _ hk => hk.elim) ?aF ?aO ?aB ?aS ?aL ?_
        (case aP => exact rfl)
        (case aB => exact (bb HB))
        (case aF => exact (fun _ _ => trivial))
        (case aO => exact (rr HO_3))
        (case aS => exact (below_size (bb HB)))
        (case aL => have := LMc13.out; omega)
        intro v1502 w19 ho hb hg hat
        rw [← Ny1501.out] at ho
        replace HO_9 := dk (Kd.R_over' (rr HO_9) (Kd.R_typed (rr HO_3)) (by decide) hg)
        replace BK1491 := dk (blk_grown (g := gb1491) (o := .cells #[.slice A0_0 l0_0.length c0_0, .int .i64 a0_1, .int .i64 a0_2, .int .i64 a0_3, .slice A0_4 l0_4.length c0_4, .bool a0_5, .slice A0_6 l0_6.length c0_6, .slice A0_7 l0_7.length c0_7, .slice (some ad1500) l0_8.length c0_8] 36 (0, 0)) (bk BK1491) hg (Kd.R_ne HO_3.out BK1491.out (by decide)))
        replace BK1499 := dk (blk_grown (g := gb1499) (o := .cells #[.int .i64 ((rd_T115 t1495 x11_1).f0), .int .i64 ((rd_T115 t1495 x11_1).f1), .int .i64 ((rd_T115 t1495 x11_1).f2), .int .i64 ((rd_T115 t1495 x11_1).f3), .int .i64 ((rd_T115 t1495 x11_1).f4), .int .i64 ((rd_T115 t1495 x11_1).f5), .int .i64 ((rd_T115 t1495 x11_1).f6)] 115 (0, 0)) (bk BK1499) hg (Kd.R_ne HO_3.out BK1499.out (by decide)))
        replace HB := dk (hb)
        have HO1503 := dk (ho)
        clear HO_3 ho hb hg hat
        refine hK.out _ _ ⟨bc BK1499 0, bc BK1499 1, bc BK1499 2, bc BK1499 3, bc BK1499 4, bc BK1499 5, bc BK1499 6, bc BK1491 0, bc BK1491 1, bc BK1491 2, bc BK1491 3, bc BK1491 4, bc BK1491 5, bc BK1491 6, bc BK1491 7, bc BK1491 8, (hc HB hw1500_0)⟩ (fun hHeld => ?_)
        clear hK K
        refine no_ ?_
        refine pz_ 11 3 ?_
        refine done_ (done_of HT_.out (by kernel_rfl)) ?_
        try go_wp2
        go_roundg k1
        case measure => have := HK1.out; omega
        case rel => exact ⟨(y1501), (wrap64 (x11_1 + 1)), e2_, H', ⟨by have := HK1.out; omega⟩, ⟨rr HO1503⟩, ⟨ro HO_9 (fun _ hk => trivial)⟩, ⟨bk BK1491⟩, ⟨bb HB⟩⟩
       ·rw [if_neg c13] at H
        exact absurd H (by simp)
      ·rw [if_neg c12] at H
       exact absurd H (by simp)
     ·rw [if_neg c11] at H
      exact absurd H (by simp)
    ·rw [if_neg c10] at H
     exact absurd H (by simp)
   ·rw [if_neg c9] at H
    have c9b0 := decide_eq_false c9
    clear c9
    obtain rfl := Option.some.inj H
    go_wp2
    go_ret
    exact ⟨_, ee, rr HO_3, bb HB⟩
def slices_Clone_int_int.f (l0 : List Int) : Option (List Int) := (some (([] : List Int) : List Int)).bind fun y337 => (if y337.length + l0.length < 17592186044416 then (some (y337 ++ l0)) else (none))
theorem slices_Clone_int_int.calls_some (ad0 : Addr) (c0 : Nat) (l0 : List Int) (r : List Int) (w : World) (hr0 : Kd.C (Kd.int .i64) w (some ad0) l0.length l0) (hc0 : l0.length ≤ c0) (h : slices_Clone_int_int.f l0 = some r) :
  Calls Try.prog 102 #[.slice (some ad0) l0.length c0] w fun e w' => ∃ v0_ : Value, e = .returned (v0_) ∧ Kd.R (Kd.int .i64) 3 w' w.heap.size (fun _ => True) v0_ r ∧ Below w.heap.size w w' := by
 have hnil_ := fun (w : World) => Lib.run_eql_slice_nil (P := Try.prog) w 23 3 (some ad0) l0.length c0 0 0 Try.underlying23
 have HR0 := dk hr0
 have HC0 := dk hc0
 clear hr0 hc0
 have HB := hb0 w
 have H : ((some (([] : List Int) : List Int)).bind fun y337 => (if y337.length + l0.length < 17592186044416 then (some (y337 ++ l0)) else (none))) = some r := h
 clear h
 obtain ⟨y337, hy337⟩ : ∃ y_ : List Int, y_ = (([] : List Int)) := ⟨_, rfl⟩
 replace H : (if y337.length + l0.length < 17592186044416 then (some (y337 ++ l0)) else (none)) = some r := by first | (rw [hy337]; with_reducible exact H) | (have H2_ := (Option.bind_some _ _).symm.trans H; rw [hy337]; with_reducible exact H2_) | (have H2_ := (Option.bind_some _ _).symm.trans H; with_reducible exact H2_) | with_reducible exact H | (rw [hy337]; exact H) | exact H
 have Ny337 := dk hy337
 clear hy337
 by_cases c2 : y337.length + l0.length < 17592186044416
 ·rw [if_pos c2] at H
  have LMc2 := dk c2
  clear c2
  obtain ⟨y340, hy340⟩ : ∃ y_ : List Int, y_ = (y337 ++ l0) := ⟨_, rfl⟩
  replace H : (some y340) = some r := by first | (rw [hy340]; with_reducible exact H) | (have H2_ := (Option.bind_some _ _).symm.trans H; rw [hy340]; with_reducible exact H2_) | (have H2_ := (Option.bind_some _ _).symm.trans H; with_reducible exact H2_) | with_reducible exact H | (rw [hy340]; exact H) | exact H
  have Ny340 := dk hy340
  clear hy340
  obtain rfl := Option.some.inj H
  go_enter Try.func102, Try.ntmps102
  go_wp2_with (first | ((with_reducible refine gdst_ 5 rfl ?_); refine Kd.R_lit (Kd.int .i64) _ 3 ?hg (N := 5) ?hd (xs := ([] : List Int)) (inner := []) (ok := fun _ => True) (okp := fun _ => True) ?hr ?hp (fun _ hk => hk) trivial (Below.refl _ _) (Nat.le_refl _) (by simp) ?_; (case hd => rfl); (case hg => rfl); (case hr => first | (go_simp; done) | (go_simp; rfl)); (case hp => exact (Reps.none _ _)); intro v338 w3 ho4 hb hg_ hnew_; clear hg_ hnew_; (first | rw [← Ny337.out] at ho4 | (simp only [Int.reduceToNat] at ho4; rw [← Ny337.out] at ho4)); have HO339 := kl ho4 HB; replace HB := hs_ HB hb; clear hb ho4) | ((with_reducible refine gate_builtin (b := .append) (xs := #[.tmp 5, .tmp 6]) rfl ?_); at_builtin; refine Kd.R_append_rows (Kd.int .i64) (w0 := w) w.heap.size rfl (.tmp 5) (.tmp 6) 23 3 (.int .i64 0) 8 rfl Try.underlying23 info3 rfl (by decide) (by omega) v338 y337 l0 _ _ _ (fun _ => True) (fun _ => False) rfl rfl ?aO ?aR (fun _ _ h => h) (fun _ h => h.elim) ?aF ?aB ?aS ?aL ?_; (case aR => exact cc HR0 HB); (case aB => exact (bb HB)); (case aF => exact (fun _ _ => trivial)); (case aO => exact (rr HO339)); (case aS => exact (below_size (bb HB))); (case aL => have := LMc2.out; omega); intro v341 w5 ho hb hg hat; rw [← Ny340.out] at ho; replace HB := dk (hb); have HO342 := dk (ho); clear HO339 ho hb hg hat))
  go_ret
  exact ⟨_, ee, rr HO342, bb HB⟩
 ·rw [if_neg c2] at H
  exact absurd H (by simp)
theorem slices_Clone_int_int.calls (A0 : Option Addr) (c0 : Nat) (l0 : List Int) (r : List Int) (w : World) (hr0 : Kd.C (Kd.int .i64) w A0 l0.length l0) (hc0 : l0.length ≤ c0) (h : slices_Clone_int_int.f l0 = some r) :
  Calls Try.prog 102 #[.slice A0 l0.length c0] w fun e w' => ∃ v0_ : Value, e = .returned (v0_) ∧ Kd.R (Kd.int .i64) 3 w' w.heap.size (fun _ => True) v0_ r ∧ Below w.heap.size w w' := by
 cases A0 with
 | some ad0 => exact slices_Clone_int_int.calls_some ad0 c0 l0 r w hr0 hc0 h
 | none =>
  have hl : l0 = [] := Kd.C_none hr0
  subst hl
  have hr : r = [] := by
   unfold slices_Clone_int_int.f at h
   simpa using h.symm
  subst hr
  have hnil_ := fun (w : World) => Lib.run_eql_slice_nil (P := Try.prog) w 23 3 none 0 c0 0 0 Try.underlying23
  go_enter Try.func102, Try.ntmps102
  go_wp2
  go_ret
  exact ⟨_, rfl, Kd.R_nil _ _ _ _ _, Below.refl _ _⟩
def slices_Clone_impl_Team_impl_Team.f (l0 : List (S139)) : Option ((List (S139))) := (some (([] : List (S139)) : List (S139))).bind fun y343 => (if y343.length + l0.length < 4398046511104 then (some (y343 ++ l0)) else (none))
theorem slices_Clone_impl_Team_impl_Team.calls_some (ad0 : Addr) (c0 : Nat) (l0 : List (S139)) (r : List (S139)) (w : World) (hr0 : Kd.C k139 w (some ad0) l0.length l0) (hc0 : l0.length ≤ c0) (h : slices_Clone_impl_Team_impl_Team.f l0 = some r) :
  Calls Try.prog 126 #[.slice (some ad0) l0.length c0] w fun e w' => ∃ v0_ : Value, e = .returned (v0_) ∧ Kd.R k139 139 w' w.heap.size (fun _ => True) v0_ r ∧ Below w.heap.size w w' := by
 have hnil_ := fun (w : World) => Lib.run_eql_slice_nil (P := Try.prog) w 32 139 (some ad0) l0.length c0 0 0 Try.underlying32
 have HR0 := dk hr0
 have HC0 := dk hc0
 clear hr0 hc0
 have HB := hb0 w
 have H : ((some (([] : List (S139)) : List (S139))).bind fun y343 => (if y343.length + l0.length < 4398046511104 then (some (y343 ++ l0)) else (none))) = some r := h
 clear h
 obtain ⟨y343, hy343⟩ : ∃ y_ : List (S139), y_ = (([] : List (S139))) := ⟨_, rfl⟩
 replace H : (if y343.length + l0.length < 4398046511104 then (some (y343 ++ l0)) else (none)) = some r := by first | (rw [hy343]; with_reducible exact H) | (have H2_ := (Option.bind_some _ _).symm.trans H; rw [hy343]; with_reducible exact H2_) | (have H2_ := (Option.bind_some _ _).symm.trans H; with_reducible exact H2_) | with_reducible exact H | (rw [hy343]; exact H) | exact H
 have Ny343 := dk hy343
 clear hy343
 by_cases c2 : y343.length + l0.length < 4398046511104
 ·rw [if_pos c2] at H
  have LMc2 := dk c2
  clear c2
  obtain ⟨y346, hy346⟩ : ∃ y_ : List (S139), y_ = (y343 ++ l0) := ⟨_, rfl⟩
  replace H : (some y346) = some r := by first | (rw [hy346]; with_reducible exact H) | (have H2_ := (Option.bind_some _ _).symm.trans H; rw [hy346]; with_reducible exact H2_) | (have H2_ := (Option.bind_some _ _).symm.trans H; with_reducible exact H2_) | with_reducible exact H | (rw [hy346]; exact H) | exact H
  have Ny346 := dk hy346
  clear hy346
  obtain rfl := Option.some.inj H
  go_enter Try.func126, Try.ntmps126
  go_wp2_with (first | ((with_reducible refine gdst_ 5 rfl ?_); refine Kd.R_lit k139 _ 139 ?hg (N := 5) ?hd (xs := ([] : List (S139))) (inner := []) (ok := fun _ => True) (okp := fun _ => True) ?hr ?hp (fun _ hk => hk) trivial (Below.refl _ _) (Nat.le_refl _) (by simp) ?_; (case hd => rfl); (case hg => rfl); (case hr => first | (go_simp; done) | (go_simp; rfl)); (case hp => exact (Reps.none _ _)); intro v344 w3 ho4 hb hg_ hnew_; clear hg_ hnew_; (first | rw [← Ny343.out] at ho4 | (simp only [Int.reduceToNat] at ho4; rw [← Ny343.out] at ho4)); have HO345 := kl ho4 HB; replace HB := hs_ HB hb; clear hb ho4) | ((with_reducible refine gate_builtin (b := .append) (xs := #[.tmp 5, .tmp 6]) rfl ?_); at_builtin; refine Kd.R_append_rows k139 (w0 := w) w.heap.size rfl (.tmp 5) (.tmp 6) 32 139 (.agg #[(.string ⟨#[]⟩), (.int .i64 0), (.int .i64 0)]) 32 rfl Try.underlying32 info139 rfl (by decide) (by omega) v344 y343 l0 _ _ _ (fun _ => True) (fun _ => False) rfl rfl ?aO ?aR (fun _ _ h => h) (fun _ h => h.elim) ?aF ?aB ?aS ?aL ?_; (case aR => exact cc HR0 HB); (case aB => exact (bb HB)); (case aF => exact (fun _ _ => trivial)); (case aO => exact (rr HO345)); (case aS => exact (below_size (bb HB))); (case aL => have := LMc2.out; omega); intro v347 w5 ho hb hg hat; rw [← Ny346.out] at ho; replace HB := dk (hb); have HO348 := dk (ho); clear HO345 ho hb hg hat))
  go_ret
  exact ⟨_, ee, rr HO348, bb HB⟩
 ·rw [if_neg c2] at H
  exact absurd H (by simp)
theorem slices_Clone_impl_Team_impl_Team.calls (A0 : Option Addr) (c0 : Nat) (l0 : List (S139)) (r : List (S139)) (w : World) (hr0 : Kd.C k139 w A0 l0.length l0) (hc0 : l0.length ≤ c0) (h : slices_Clone_impl_Team_impl_Team.f l0 = some r) :
  Calls Try.prog 126 #[.slice A0 l0.length c0] w fun e w' => ∃ v0_ : Value, e = .returned (v0_) ∧ Kd.R k139 139 w' w.heap.size (fun _ => True) v0_ r ∧ Below w.heap.size w w' := by
 cases A0 with
 | some ad0 => exact slices_Clone_impl_Team_impl_Team.calls_some ad0 c0 l0 r w hr0 hc0 h
 | none =>
  have hl : l0 = [] := Kd.C_none hr0
  subst hl
  have hr : r = [] := by
   unfold slices_Clone_impl_Team_impl_Team.f at h
   simpa using h.symm
  subst hr
  have hnil_ := fun (w : World) => Lib.run_eql_slice_nil (P := Try.prog) w 32 139 none 0 c0 0 0 Try.underlying32
  go_enter Try.func126, Try.ntmps126
  go_wp2
  go_ret
  exact ⟨_, rfl, Kd.R_nil _ _ _ _ _, Below.refl _ _⟩
def slices_Clone_impl_Game_impl_Game.f (l0 : List (S95)) : Option ((List (S95))) := (some (([] : List (S95)) : List (S95))).bind fun y349 => (if y349.length + l0.length < 3518437208883 then (some (y349 ++ l0)) else (none))
theorem slices_Clone_impl_Game_impl_Game.calls_some (ad0 : Addr) (c0 : Nat) (l0 : List (S95)) (r : List (S95)) (w : World) (hr0 : Kd.C k95 w (some ad0) l0.length l0) (hc0 : l0.length ≤ c0) (h : slices_Clone_impl_Game_impl_Game.f l0 = some r) :
  Calls Try.prog 127 #[.slice (some ad0) l0.length c0] w fun e w' => ∃ v0_ : Value, e = .returned (v0_) ∧ Kd.R k95 95 w' w.heap.size (fun _ => True) v0_ r ∧ Below w.heap.size w w' := by
 have hnil_ := fun (w : World) => Lib.run_eql_slice_nil (P := Try.prog) w 34 95 (some ad0) l0.length c0 0 0 Try.underlying34
 have HR0 := dk hr0
 have HC0 := dk hc0
 clear hr0 hc0
 have HB := hb0 w
 have H : ((some (([] : List (S95)) : List (S95))).bind fun y349 => (if y349.length + l0.length < 3518437208883 then (some (y349 ++ l0)) else (none))) = some r := h
 clear h
 obtain ⟨y349, hy349⟩ : ∃ y_ : List (S95), y_ = (([] : List (S95))) := ⟨_, rfl⟩
 replace H : (if y349.length + l0.length < 3518437208883 then (some (y349 ++ l0)) else (none)) = some r := by first | (rw [hy349]; with_reducible exact H) | (have H2_ := (Option.bind_some _ _).symm.trans H; rw [hy349]; with_reducible exact H2_) | (have H2_ := (Option.bind_some _ _).symm.trans H; with_reducible exact H2_) | with_reducible exact H | (rw [hy349]; exact H) | exact H
 have Ny349 := dk hy349
 clear hy349
 by_cases c2 : y349.length + l0.length < 3518437208883
 ·rw [if_pos c2] at H
  have LMc2 := dk c2
  clear c2
  obtain ⟨y352, hy352⟩ : ∃ y_ : List (S95), y_ = (y349 ++ l0) := ⟨_, rfl⟩
  replace H : (some y352) = some r := by first | (rw [hy352]; with_reducible exact H) | (have H2_ := (Option.bind_some _ _).symm.trans H; rw [hy352]; with_reducible exact H2_) | (have H2_ := (Option.bind_some _ _).symm.trans H; with_reducible exact H2_) | with_reducible exact H | (rw [hy352]; exact H) | exact H
  have Ny352 := dk hy352
  clear hy352
  obtain rfl := Option.some.inj H
  go_enter Try.func127, Try.ntmps127
  go_wp2_with (first | ((with_reducible refine gdst_ 5 rfl ?_); refine Kd.R_lit k95 _ 95 ?hg (N := 5) ?hd (xs := ([] : List (S95))) (inner := []) (ok := fun _ => True) (okp := fun _ => True) ?hr ?hp (fun _ hk => hk) trivial (Below.refl _ _) (Nat.le_refl _) (by simp) ?_; (case hd => rfl); (case hg => rfl); (case hr => first | (go_simp; done) | (go_simp; rfl)); (case hp => exact (Reps.none _ _)); intro v350 w3 ho4 hb hg_ hnew_; clear hg_ hnew_; (first | rw [← Ny349.out] at ho4 | (simp only [Int.reduceToNat] at ho4; rw [← Ny349.out] at ho4)); have HO351 := kl ho4 HB; replace HB := hs_ HB hb; clear hb ho4) | ((with_reducible refine gate_builtin (b := .append) (xs := #[.tmp 5, .tmp 6]) rfl ?_); at_builtin; refine Kd.R_append_rows k95 (w0 := w) w.heap.size rfl (.tmp 5) (.tmp 6) 34 95 (.agg #[(.int .i64 0), (.int .i64 0), (.int .i64 0), (.int .i64 0), (.int .i64 0)]) 40 rfl Try.underlying34 info95 rfl (by decide) (by omega) v350 y349 l0 _ _ _ (fun _ => True) (fun _ => False) rfl rfl ?aO ?aR (fun _ _ h => h) (fun _ h => h.elim) ?aF ?aB ?aS ?aL ?_; (case aR => exact cc HR0 HB); (case aB => exact (bb HB)); (case aF => exact (fun _ _ => trivial)); (case aO => exact (rr HO351)); (case aS => exact (below_size (bb HB))); (case aL => have := LMc2.out; omega); intro v353 w5 ho hb hg hat; rw [← Ny352.out] at ho; replace HB := dk (hb); have HO354 := dk (ho); clear HO351 ho hb hg hat))
  go_ret
  exact ⟨_, ee, rr HO354, bb HB⟩
 ·rw [if_neg c2] at H
  exact absurd H (by simp)
theorem slices_Clone_impl_Game_impl_Game.calls (A0 : Option Addr) (c0 : Nat) (l0 : List (S95)) (r : List (S95)) (w : World) (hr0 : Kd.C k95 w A0 l0.length l0) (hc0 : l0.length ≤ c0) (h : slices_Clone_impl_Game_impl_Game.f l0 = some r) :
  Calls Try.prog 127 #[.slice A0 l0.length c0] w fun e w' => ∃ v0_ : Value, e = .returned (v0_) ∧ Kd.R k95 95 w' w.heap.size (fun _ => True) v0_ r ∧ Below w.heap.size w w' := by
 cases A0 with
 | some ad0 => exact slices_Clone_impl_Game_impl_Game.calls_some ad0 c0 l0 r w hr0 hc0 h
 | none =>
  have hl : l0 = [] := Kd.C_none hr0
  subst hl
  have hr : r = [] := by
   unfold slices_Clone_impl_Game_impl_Game.f at h
   simpa using h.symm
  subst hr
  have hnil_ := fun (w : World) => Lib.run_eql_slice_nil (P := Try.prog) w 34 95 none 0 c0 0 0 Try.underlying34
  go_enter Try.func127, Try.ntmps127
  go_wp2
  go_ret
  exact ⟨_, rfl, Kd.R_nil _ _ _ _ _, Below.refl _ _⟩
def impl_Book_copied.f (l0_0 : List (S139)) (a0_1 : Int) (a0_2 : Int) (a0_3 : Int) (l0_4 : List Int) (a0_5 : Bool) (l0_6 : List (S95)) (l0_7 : List Int) (l0_8 : List Int) : Option ((List (S139)) × Int × Int × Int × List Int × Bool × (List (S95)) × List Int × List Int) := (slices_Clone_impl_Team_impl_Team.f l0_0).bind fun t357 => ((slices_Clone_impl_Game_impl_Game.f l0_6).bind fun t360 => ((slices_Clone_int_int.f l0_7).bind fun t363 => ((slices_Clone_int_int.f l0_8).bind fun t366 => ((slices_Clone_int_int.f l0_4).bind fun t369 => (some (t357, a0_1, a0_2, a0_3, t369, a0_5, t360, t363, t366))))))
def impl_Book_copied.T1 : Bool × List (List Nat × List Nat) := (true, [([], []), ([0], [0]), ([1], [1]), ([], []), ([3], [3]), ([4, 2], [4]), ([], []), ([6], [6]), ([7, 5], [7]), ([], []), ([9], [9]), ([10, 8], [10]), ([0, 1, 2, 3, 4, 6, 7, 9, 10], []), ([12, 2, 11, 0, 1, 2, 3, 4, 6, 7, 9, 10], [2, 12]), ([0, 1, 2, 3, 4, 5, 6, 7, 9, 10, 12, 13], []), ([14, 5, 13, 0, 1, 2, 3, 4, 5, 6, 7, 9, 10, 12, 13], [5, 14]), ([0, 1, 2, 3, 4, 5, 6, 7, 8, 9, 10, 12, 13, 14, 15], []), ([16, 8, 15, 0, 1, 2, 3, 4, 5, 6, 7, 8, 9, 10, 12, 13, 14, 15], [8, 16]), ([0, 1, 2, 3, 4, 5, 6, 7, 8, 9, 10, 11, 12, 13, 14, 15, 16, 17], []), ([18, 11, 17, 0, 1, 2, 3, 4, 5, 6, 7, 8, 9, 10, 11, 12, 13, 14, 15, 16, 17], [11, 18])])
def impl_Book_copied.B1 : List Nat := [0, 1, 3, 0, 8, 31, 0, 64, 255, 0, 512, 2047, 1759, 8191, 16383, 32767, 65535, 131071, 262143, 524287]
theorem impl_Book_copied.tab1 : rtab .any (opsOf Try.f62 1) = impl_Book_copied.T1 := by kernel_rfl
theorem impl_Book_copied.bits1 : waitsOk impl_Book_copied.T1.2 impl_Book_copied.B1 = true := by kernel_rfl
theorem impl_Book_copied.calls (A0_0 : Option Addr) (c0_0 : Nat) (l0_0 : List (S139)) (a0_1 : Int) (a0_2 : Int) (a0_3 : Int) (A0_4 : Option Addr) (c0_4 : Nat) (l0_4 : List Int) (a0_5 : Bool) (A0_6 : Option Addr) (c0_6 : Nat) (l0_6 : List (S95)) (A0_7 : Option Addr) (c0_7 : Nat) (l0_7 : List Int) (A0_8 : Option Addr) (c0_8 : Nat) (l0_8 : List Int) (r1 : List (S139)) (r2 : Int) (r3 : Int) (r4 : Int) (r5 : List Int) (r6 : Bool) (r7 : List (S95)) (r8 : List Int) (r9 : List Int) (w : World) (hr0_0 : Kd.C k139 w A0_0 l0_0.length l0_0) (hc0_0 : l0_0.length ≤ c0_0) (hr0_4 : Kd.C (Kd.int .i64) w A0_4 l0_4.length l0_4) (hc0_4 : l0_4.length ≤ c0_4) (hr0_6 : Kd.C k95 w A0_6 l0_6.length l0_6) (hc0_6 : l0_6.length ≤ c0_6) (hr0_7 : Kd.C (Kd.int .i64) w A0_7 l0_7.length l0_7) (hc0_7 : l0_7.length ≤ c0_7) (hr0_8 : Kd.C (Kd.int .i64) w A0_8 l0_8.length l0_8) (hc0_8 : l0_8.length ≤ c0_8) (h : impl_Book_copied.f l0_0 a0_1 a0_2 a0_3 l0_4 a0_5 l0_6 l0_7 l0_8 = some (r1, r2, r3, r4, r5, r6, r7, r8, r9)) :
  Calls Try.prog 62 #[.agg #[.slice A0_0 l0_0.length c0_0, .int .i64 a0_1, .int .i64 a0_2, .int .i64 a0_3, .slice A0_4 l0_4.length c0_4, .bool a0_5, .slice A0_6 l0_6.length c0_6, .slice A0_7 l0_7.length c0_7, .slice A0_8 l0_8.length c0_8]] w fun e w' => ∃ v0_ v4_ v6_ v7_ v8_ : Value, e = .returned (.agg #[v0_, .int .i64 r2, .int .i64 r3, .int .i64 r4, v4_, .bool r6, v6_, v7_, v8_]) ∧ Kd.R k139 139 w' w.heap.size (fun _ => True) v0_ r1 ∧ Kd.R (Kd.int .i64) 3 w' w.heap.size (fun k_ => some k_ ≠ (v7_ : Value).ownBlock ∧ some k_ ≠ (v8_ : Value).ownBlock) v4_ r5 ∧ Kd.R k95 95 w' w.heap.size (fun _ => True) v6_ r7 ∧ Kd.R (Kd.int .i64) 3 w' w.heap.size (fun k_ => some k_ ≠ (v4_ : Value).ownBlock ∧ some k_ ≠ (v8_ : Value).ownBlock) v7_ r8 ∧ Kd.R (Kd.int .i64) 3 w' w.heap.size (fun k_ => some k_ ≠ (v4_ : Value).ownBlock ∧ some k_ ≠ (v7_ : Value).ownBlock) v8_ r9 ∧ Below w.heap.size w w' := by
 have hu36 := Try.underlying36
 have HR0_0 := dk hr0_0
 have HC0_0 := dk hc0_0
 clear hr0_0 hc0_0
 have HR0_4 := dk hr0_4
 have HC0_4 := dk hc0_4
 clear hr0_4 hc0_4
 have HR0_6 := dk hr0_6
 have HC0_6 := dk hc0_6
 clear hr0_6 hc0_6
 have HR0_7 := dk hr0_7
 have HC0_7 := dk hc0_7
 clear hr0_7 hc0_7
 have HR0_8 := dk hr0_8
 have HC0_8 := dk hc0_8
 clear hr0_8 hc0_8
 have HB := hb0 w
 have H : ((slices_Clone_impl_Team_impl_Team.f l0_0).bind fun t357 => ((slices_Clone_impl_Game_impl_Game.f l0_6).bind fun t360 => ((slices_Clone_int_int.f l0_7).bind fun t363 => ((slices_Clone_int_int.f l0_8).bind fun t366 => ((slices_Clone_int_int.f l0_4).bind fun t369 => (some (t357, a0_1, a0_2, a0_3, t369, a0_5, t360, t363, t366))))))) = some (r1, r2, r3, r4, r5, r6, r7, r8, r9) := h
 clear h
 replace H := Option.bind_eq_some_iff.mp H
 obtain ⟨t357, A20, H⟩ := H
 replace H : ((slices_Clone_impl_Game_impl_Game.f l0_6).bind fun t360 => ((slices_Clone_int_int.f l0_7).bind fun t363 => ((slices_Clone_int_int.f l0_8).bind fun t366 => ((slices_Clone_int_int.f l0_4).bind fun t369 => (some (t357, a0_1, a0_2, a0_3, t369, a0_5, t360, t363, t366)))))) = some (r1, r2, r3, r4, r5, r6, r7, r8, r9) := H
 have A2 := dk A20
 clear A20
 replace H := Option.bind_eq_some_iff.mp H
 obtain ⟨t360, A30, H⟩ := H
 replace H : ((slices_Clone_int_int.f l0_7).bind fun t363 => ((slices_Clone_int_int.f l0_8).bind fun t366 => ((slices_Clone_int_int.f l0_4).bind fun t369 => (some (t357, a0_1, a0_2, a0_3, t369, a0_5, t360, t363, t366))))) = some (r1, r2, r3, r4, r5, r6, r7, r8, r9) := H
 have A3 := dk A30
 clear A30
 replace H := Option.bind_eq_some_iff.mp H
 obtain ⟨t363, A40, H⟩ := H
 replace H : ((slices_Clone_int_int.f l0_8).bind fun t366 => ((slices_Clone_int_int.f l0_4).bind fun t369 => (some (t357, a0_1, a0_2, a0_3, t369, a0_5, t360, t363, t366)))) = some (r1, r2, r3, r4, r5, r6, r7, r8, r9) := H
 have A4 := dk A40
 clear A40
 replace H := Option.bind_eq_some_iff.mp H
 obtain ⟨t366, A50, H⟩ := H
 replace H : ((slices_Clone_int_int.f l0_4).bind fun t369 => (some (t357, a0_1, a0_2, a0_3, t369, a0_5, t360, t363, t366))) = some (r1, r2, r3, r4, r5, r6, r7, r8, r9) := H
 have A5 := dk A50
 clear A50
 replace H := Option.bind_eq_some_iff.mp H
 obtain ⟨t369, A60, H⟩ := H
 replace H : (some (t357, a0_1, a0_2, a0_3, t369, a0_5, t360, t363, t366)) = some (r1, r2, r3, r4, r5, r6, r7, r8, r9) := H
 have A6 := dk A60
 clear A60
 simp only [Option.some.injEq, Prod.mk.injEq] at H
 obtain ⟨rfl, rfl, rfl, rfl, rfl, rfl, rfl, rfl, rfl⟩ := H
 go_enter Try.func62, Try.ntmps62
 try go_wp2_with (first | ((with_reducible refine gdst_ 1 rfl ?_); refine bx (N := 1) (cs := #[.slice A0_0 l0_0.length c0_0, .int .i64 a0_1, .int .i64 a0_2, .int .i64 a0_3, .slice A0_4 l0_4.length c0_4, .bool a0_5, .slice A0_6 l0_6.length c0_6, .slice A0_7 l0_7.length c0_7, .slice A0_8 l0_8.length c0_8]) (t := 36) ?_; intro gb355 hg w7 hbox hb; have BK355 := dk (hbox); have GW355 := gs hg HB; have GE355 := gs hg HB; replace HB := hs_ HB hb; clear hb hbox hg) | ((with_reducible refine gdst_ 2 rfl ?_); refine bx (N := 2) (cs := #[.slice none 0 0, .int .i64 0, .int .i64 0, .int .i64 0, .slice none 0 0, .bool false, .slice none 0 0, .slice none 0 0, .slice none 0 0]) (t := 36) ?_; intro gb356 hg w8 hbox hb; have BK356 := dk (hbox); have GW356 := gs hg HB; have GE356 := gs hg HB; replace HB := hs_ HB hb; have NB355_356 := gn hg BK355; have NB356_355 := gm hg BK355; replace BK355 := kb BK355 hb; clear hb hbox hg))
 replace BK355 := dk (blk_drew BK355.out)
 replace BK356 := dk (blk_drew BK356.out)
 replace HB := dk (below_drew1 HB.out)
 refine start_ (n := 20) (S := fun w' => w'.cell? ⟨gb355, 0, none⟩ = some (.slice A0_0 l0_0.length c0_0) ∧ w'.cell? ⟨gb355, 1, none⟩ = some (.int .i64 a0_1) ∧ w'.cell? ⟨gb355, 2, none⟩ = some (.int .i64 a0_2) ∧ w'.cell? ⟨gb355, 3, none⟩ = some (.int .i64 a0_3) ∧ w'.cell? ⟨gb355, 4, none⟩ = some (.slice A0_4 l0_4.length c0_4) ∧ w'.cell? ⟨gb355, 5, none⟩ = some (.bool a0_5) ∧ w'.cell? ⟨gb355, 6, none⟩ = some (.slice A0_6 l0_6.length c0_6) ∧ w'.cell? ⟨gb355, 7, none⟩ = some (.slice A0_7 l0_7.length c0_7) ∧ w'.cell? ⟨gb355, 8, none⟩ = some (.slice A0_8 l0_8.length c0_8)) (ds := [13, 15, 17, 19]) #[false, false, false, false, false, false, false, false, false, false, false, false, false, false, false, false, false, false, false, false] (by kernel_rfl) rfl rfl ⟨bc BK355 0, bc BK355 1, bc BK355 2, bc BK355 3, bc BK355 4, bc BK355 5, bc BK355 6, bc BK355 7, bc BK355 8⟩ (fun hHeld => ?_); refine with_tabW impl_Book_copied.tab1 impl_Book_copied.bits1 (fun HT_ HW_ => ?_)
 generalize w8.drew = w9 at BK355 BK356 HB hHeld ⊢
 refine pz_ 0 3 ?_
 refine pz_ 3 6 ?_
 refine pz_ 6 9 ?_
 refine pz_ 9 12 ?_
 refine tk_ 1 4 ?_
 refine tk_ 4 7 ?_
 refine tk_ 7 10 ?_
 refine tk_ 10 13 ?_
 refine on_ 2 (some 5) (fun K hK => ?_)
 refine ga_ Try.func126 #[.slice A0_0 l0_0.length c0_0] ?_
 with_reducible refine (slices_Clone_impl_Team_impl_Team.calls _ _ l0_0 t357 _ ?side1 ?side2 A2.out).mono ?_
 (case side1 => exact cc HR0_0 HB)
 (case side2 => exact HC0_0.out)
 rintro e w10 ⟨v358, rfl, ho0, hb⟩
 refine ⟨_, rfl, ?_⟩
 have HO359 := kl ho0 HB
 replace BK355 := kb BK355 hb
 replace BK356 := kb BK356 hb
 replace HB := hs_ HB hb
 refine hK.out _ _ ⟨bc BK355 0, bc BK355 1, bc BK355 2, bc BK355 3, bc BK355 4, bc BK355 5, bc BK355 6, bc BK355 7, bc BK355 8⟩ (fun hHeld => ?_)
 clear hK K
 refine no_ ?_
 refine pz_ 12 15 ?_
 refine on_ 5 (some 8) (fun K hK => ?_)
 refine ga_ Try.func127 #[.slice A0_6 l0_6.length c0_6] ?_
 with_reducible refine (slices_Clone_impl_Game_impl_Game.calls _ _ l0_6 t360 _ ?side1 ?side2 A3.out).mono ?_
 (case side1 => exact cc HR0_6 HB)
 (case side2 => exact HC0_6.out)
 rintro e w11 ⟨v361, rfl, ho0, hb⟩
 refine ⟨_, rfl, ?_⟩
 replace HO359 := kr HO359 hb
 have HO362 := kl ho0 HB
 replace BK355 := kb BK355 hb
 replace BK356 := kb BK356 hb
 replace HB := hs_ HB hb
 refine hK.out _ _ ⟨bc BK355 0, bc BK355 1, bc BK355 2, bc BK355 3, bc BK355 4, bc BK355 5, bc BK355 6, bc BK355 7, bc BK355 8⟩ (fun hHeld => ?_)
 clear hK K
 refine no_ ?_
 refine on_ 8 (some 11) (fun K hK => ?_)
 refine ga_ Try.func102 #[.slice A0_7 l0_7.length c0_7] ?_
 with_reducible refine (slices_Clone_int_int.calls _ _ l0_7 t363 _ ?side1 ?side2 A4.out).mono ?_
 (case side1 => exact cc HR0_7 HB)
 (case side2 => exact HC0_7.out)
 rintro e w12 ⟨v364, rfl, ho0, hb⟩
 refine ⟨_, rfl, ?_⟩
 replace HO359 := kr HO359 hb
 replace HO362 := kr HO362 hb
 have HO365 := kl ho0 HB
 replace BK355 := kb BK355 hb
 replace BK356 := kb BK356 hb
 replace HB := hs_ HB hb
 refine hK.out _ _ ⟨bc BK355 0, bc BK355 1, bc BK355 2, bc BK355 3, bc BK355 4, bc BK355 5, bc BK355 6, bc BK355 7, bc BK355 8⟩ (fun hHeld => ?_)
 clear hK K
 refine no_ ?_
 refine on_ 11 (some 14) (fun K hK => ?_)
 refine ga_ Try.func102 #[.slice A0_8 l0_8.length c0_8] ?_
 with_reducible refine (slices_Clone_int_int.calls _ _ l0_8 t366 _ ?side1 ?side2 A5.out).mono ?_
 (case side1 => exact cc HR0_8 HB)
 (case side2 => exact HC0_8.out)
 rintro e w13 ⟨v367, rfl, ho0, hb⟩
 refine ⟨_, rfl, ?_⟩
 replace HO359 := kr HO359 hb
 replace HO362 := kr HO362 hb
 have HO368 := dk (Kd.R_lower (Kd.R_new' ho0 (rt HO365)) (below_size (bb HB)))
 replace HO365 := ke HO365 ho0 hb
 replace BK355 := kb BK355 hb
 replace BK356 := kb BK356 hb
 replace HB := hs_ HB hb
 obtain ⟨Ao14, co14, eo14⟩ := Kd.R_slice HO359.out
 (first | subst eo14 | (injection eo14 with f1_ f2_ f3_; have f4_ := f1_.symm; have f5_ := f3_.symm; clear f1_ f2_ f3_; subst f4_; subst f5_))
 obtain ⟨Ao16, co16, eo16⟩ := Kd.R_slice HO362.out
 (first | subst eo16 | (injection eo16 with f1_ f2_ f3_; have f4_ := f1_.symm; have f5_ := f3_.symm; clear f1_ f2_ f3_; subst f4_; subst f5_))
 obtain ⟨Ao18, co18, eo18⟩ := Kd.R_slice HO365.out
 (first | subst eo18 | (injection eo18 with f1_ f2_ f3_; have f4_ := f1_.symm; have f5_ := f3_.symm; clear f1_ f2_ f3_; subst f4_; subst f5_))
 obtain ⟨Ao20, co20, eo20⟩ := Kd.R_slice HO368.out
 (first | subst eo20 | (injection eo20 with f1_ f2_ f3_; have f4_ := f1_.symm; have f5_ := f3_.symm; clear f1_ f2_ f3_; subst f4_; subst f5_))
 refine hK.out _ _ ⟨bc BK355 0, bc BK355 1, bc BK355 2, bc BK355 3, bc BK355 4, bc BK355 5, bc BK355 6, bc BK355 7, bc BK355 8⟩ (fun hHeld => ?_)
 clear hK K
 refine no_ ?_
 refine last_ (i := 13) (N := none) #[true, true, true, true, true, true, true, true, true, true, true, true, true, true, false, false, false, false, false, false] rfl rfl (one_of HT_.out (by kernel_rfl)) (by decide) (fun K hK => ?_)
 have hs15 : w13.cell? ⟨gb355, 0, none⟩ = some (.slice A0_0 l0_0.length c0_0) := bc BK355 0
 have hfs15 := blk_frozen BK355.out 0
 have hns15_1 := NB356_355.out
 have hms15_1 := NB355_356.out
 refine skip_ (w1 := ?_) (by rfl) rfl ?_ ?_
 rotate_left
 ·go_simp
  rfl
 refine hK.out _ _ ?_
 clear hK K
 refine pz_ 14 16 ?_
 refine last_ (i := 15) (N := none) #[true, true, true, true, true, true, true, true, true, true, true, true, true, true, true, true, false, false, false, false] rfl rfl (one_of HT_.out (by kernel_rfl)) (by decide) (fun K hK => ?_)
 have hs17 : w13.cell? ⟨gb355, 6, none⟩ = some (.slice A0_6 l0_6.length c0_6) := bc BK355 6
 have hfs17 := blk_frozen BK355.out 6
 have hns17_1 := NB356_355.out
 have hms17_1 := NB355_356.out
 refine skip_ (w1 := ?_) (by rfl) rfl ?_ ?_
 rotate_left
 ·go_simp
  rfl
 refine hK.out _ _ ?_
 clear hK K
 refine pz_ 16 17 ?_
 refine last_ (i := 17) (N := none) #[true, true, true, true, true, true, true, true, true, true, true, true, true, true, true, true, true, true, false, false] rfl rfl (one_of HT_.out (by kernel_rfl)) (by decide) (fun K hK => ?_)
 have hs19 : w13.cell? ⟨gb355, 7, none⟩ = some (.slice A0_7 l0_7.length c0_7) := bc BK355 7
 have hfs19 := blk_frozen BK355.out 7
 have hns19_1 := NB356_355.out
 have hms19_1 := NB355_356.out
 refine skip_ (w1 := ?_) (by rfl) rfl ?_ ?_
 rotate_left
 ·go_simp
  rfl
 refine hK.out _ _ ?_
 clear hK K
 refine pz_ 18 18 ?_
 refine last_ (i := 19) (N := none) #[true, true, true, true, true, true, true, true, true, true, true, true, true, true, true, true, true, true, true, true] rfl rfl (one_of HT_.out (by kernel_rfl)) (by decide) (fun K hK => ?_)
 have hs21 : w13.cell? ⟨gb355, 8, none⟩ = some (.slice A0_8 l0_8.length c0_8) := bc BK355 8
 have hfs21 := blk_frozen BK355.out 8
 have hns21_1 := NB356_355.out
 have hms21_1 := NB355_356.out
 refine skip_ (w1 := ?_) (by rfl) rfl ?_ ?_
 rotate_left
 ·go_simp
  rfl
 refine hK.out _ _ ?_
 clear hK K
 refine done_ (done_of HT_.out (by kernel_rfl)) ?_
 have hnb22 := NB355_356.out
 have hnc22 := NB356_355.out
 have ⟨z23_0, z23_1, z23_2, z23_3, z23_4, z23_5, z23_6, z23_7, z23_8, v23_0, v23_1, v23_2, v23_3, v23_4, v23_5, v23_6, v23_7, v23_8⟩ := rz9 BK355
 try go_wp2_with (first | ((with_reducible refine gcallee_ 102 rfl ?_); refine gl (some 22) Try.func102 #[.slice A0_4 l0_4.length c0_4] ?_; (with_reducible refine (slices_Clone_int_int.calls _ _ l0_4 t369 _ ?side1 ?side2 A6.out).mono ?_); (case side1 => exact Kd.C_below HR0_4.out (bb HB)); (case side2 => exact HC0_4.out); rintro e w24 ⟨v370, rfl, ho0, hb⟩; refine ⟨_, rfl, ?_⟩; replace HO359 := kf HO359 BK355 hb; replace HO362 := kf HO362 BK355 hb; have HO371 := dk (Kd.R_lower (Kd.R_new' (Kd.R_new' ho0 (Kd.R_lt (rf HO365 BK355 (fun _ h_ => h_.1)))) (Kd.R_lt (rf HO368 BK355 (fun _ h_ => h_.1)))) (below_size (bb HB))); replace HO365 := dk (Kd.R_elder' (rf HO365 BK355 (fun _ h_ => h_.1)) (Kd.R_base ho0) hb); replace HO368 := dk (Kd.R_elder' (rf HO368 BK355 (fun _ h_ => h_.1)) (Kd.R_base ho0) hb); replace BK355 := dk (blk_below (g := gb355) (o := .cells #[.slice Ao14 t357.length co14, .int .i64 a0_1, .int .i64 a0_2, .int .i64 a0_3, .slice A0_4 l0_4.length c0_4, .bool a0_5, .slice Ao16 t360.length co16, .slice Ao18 t363.length co18, .slice Ao20 t366.length co20] 36 (0, 0)) (bp BK355) hb); replace BK356 := dk (blk_below (bf NB356_355.out BK356) hb); replace HB := hs_ HB hb; obtain ⟨Ao25, co25, eo25⟩ := Kd.R_slice HO371.out; subst eo25; have ⟨z26_0, z26_1, z26_2, z26_3, z26_4, z26_5, z26_6, z26_7, z26_8, v26_0, v26_1, v26_2, v26_3, v26_4, v26_5, v26_6, v26_7, v26_8⟩ := rz9 BK355; have ⟨z27_0, z27_1, z27_2, z27_3, z27_4, z27_5, z27_6, z27_7, z27_8, v27_0, v27_1, v27_2, v27_3, v27_4, v27_5, v27_6, v27_7, v27_8⟩ := rz9 BK356))
 refine bodyPost_ret (results_cell_row rfl _ _ gb356 36 #[.slice Ao14 t357.length co14, .int .i64 a0_1, .int .i64 a0_2, .int .i64 a0_3, .slice Ao25 t369.length co25, .bool a0_5, .slice Ao16 t360.length co16, .slice Ao18 t363.length co18, .slice Ao20 t366.length co20] (0, 0) _ rfl (by (with_reducible repeat (first | refine blk_drewN ?_ _ | refine blk_drew ?_ | refine blk_alloc ?_ _)); refine blk_put (cs := #[.slice Ao14 t357.length co14, .int .i64 a0_1, .int .i64 a0_2, .int .i64 a0_3, .slice Ao25 t369.length co25, .bool a0_5, .slice Ao16 t360.length co16, .slice Ao18 t363.length co18, .slice none 0 0]) ?_ 8 _ rfl; (with_reducible repeat (first | refine blk_drewN ?_ _ | refine blk_drew ?_ | refine blk_alloc ?_ _)); refine blk_put (cs := #[.slice Ao14 t357.length co14, .int .i64 a0_1, .int .i64 a0_2, .int .i64 a0_3, .slice Ao25 t369.length co25, .bool a0_5, .slice Ao16 t360.length co16, .slice none 0 0, .slice none 0 0]) ?_ 7 _ rfl; (with_reducible repeat (first | refine blk_drewN ?_ _ | refine blk_drew ?_ | refine blk_alloc ?_ _)); refine blk_put (cs := #[.slice Ao14 t357.length co14, .int .i64 a0_1, .int .i64 a0_2, .int .i64 a0_3, .slice Ao25 t369.length co25, .bool a0_5, .slice none 0 0, .slice none 0 0, .slice none 0 0]) ?_ 6 _ rfl; (with_reducible repeat (first | refine blk_drewN ?_ _ | refine blk_drew ?_ | refine blk_alloc ?_ _)); refine blk_put (cs := #[.slice Ao14 t357.length co14, .int .i64 a0_1, .int .i64 a0_2, .int .i64 a0_3, .slice Ao25 t369.length co25, .bool false, .slice none 0 0, .slice none 0 0, .slice none 0 0]) ?_ 5 _ rfl; (with_reducible repeat (first | refine blk_drewN ?_ _ | refine blk_drew ?_ | refine blk_alloc ?_ _)); refine blk_put (cs := #[.slice Ao14 t357.length co14, .int .i64 a0_1, .int .i64 a0_2, .int .i64 a0_3, .slice none 0 0, .bool false, .slice none 0 0, .slice none 0 0, .slice none 0 0]) ?_ 4 _ rfl; (with_reducible repeat (first | refine blk_drewN ?_ _ | refine blk_drew ?_ | refine blk_alloc ?_ _)); refine blk_put (cs := #[.slice Ao14 t357.length co14, .int .i64 a0_1, .int .i64 a0_2, .int .i64 0, .slice none 0 0, .bool false, .slice none 0 0, .slice none 0 0, .slice none 0 0]) ?_ 3 _ rfl; (with_reducible repeat (first | refine blk_drewN ?_ _ | refine blk_drew ?_ | refine blk_alloc ?_ _)); refine blk_put (cs := #[.slice Ao14 t357.length co14, .int .i64 a0_1, .int .i64 0, .int .i64 0, .slice none 0 0, .bool false, .slice none 0 0, .slice none 0 0, .slice none 0 0]) ?_ 2 _ rfl; (with_reducible repeat (first | refine blk_drewN ?_ _ | refine blk_drew ?_ | refine blk_alloc ?_ _)); refine blk_put (cs := #[.slice Ao14 t357.length co14, .int .i64 0, .int .i64 0, .int .i64 0, .slice none 0 0, .bool false, .slice none 0 0, .slice none 0 0, .slice none 0 0]) ?_ 1 _ rfl; (with_reducible repeat (first | refine blk_drewN ?_ _ | refine blk_drew ?_ | refine blk_alloc ?_ _)); refine blk_put (cs := #[.slice none 0 0, .int .i64 0, .int .i64 0, .int .i64 0, .slice none 0 0, .bool false, .slice none 0 0, .slice none 0 0, .slice none 0 0]) ?_ 0 _ rfl; exact bf NB356_355.out BK356) Try.underlying36 rfl (by kernel_rfl)) rfl ?_
 exact ⟨_, _, _, _, _, ee, by (with_reducible repeat (first | apply Kd.R_alloc | apply Kd.R_drewN | apply Kd.R_drew)); exact Kd.R_mono (Kd.R_far (p := ⟨gb356, 8, none⟩) (Kd.R_far (p := ⟨gb356, 7, none⟩) (Kd.R_far (p := ⟨gb356, 6, none⟩) (Kd.R_far (p := ⟨gb356, 5, none⟩) (Kd.R_far (p := ⟨gb356, 4, none⟩) (Kd.R_far (p := ⟨gb356, 3, none⟩) (Kd.R_far (p := ⟨gb356, 2, none⟩) (Kd.R_far (p := ⟨gb356, 1, none⟩) (Kd.R_far (p := ⟨gb356, 0, none⟩) (Kd.R_far (p := ⟨gb355, 4, none⟩) (Kd.R_types (Kd.R_types HO359.out BK355.out (by decide)) BK356.out (by decide)) (fun _ hk => hk.1.2) (.slice Ao25 t369.length co25)) (fun _ hk => hk.2) (.slice Ao14 t357.length co14)) (fun _ hk => hk.2) (.int .i64 a0_1)) (fun _ hk => hk.2) (.int .i64 a0_2)) (fun _ hk => hk.2) (.int .i64 a0_3)) (fun _ hk => hk.2) (.slice Ao25 t369.length co25)) (fun _ hk => hk.2) (.bool a0_5)) (fun _ hk => hk.2) (.slice Ao16 t360.length co16)) (fun _ hk => hk.2) (.slice Ao18 t363.length co18)) (fun _ hk => hk.2) (.slice Ao20 t366.length co20)) (fun _ hk => trivial), by (with_reducible repeat (first | apply Kd.R_alloc | apply Kd.R_drewN | apply Kd.R_drew)); exact Kd.R_mono (Kd.R_far (p := ⟨gb356, 8, none⟩) (Kd.R_far (p := ⟨gb356, 7, none⟩) (Kd.R_far (p := ⟨gb356, 6, none⟩) (Kd.R_far (p := ⟨gb356, 5, none⟩) (Kd.R_far (p := ⟨gb356, 4, none⟩) (Kd.R_far (p := ⟨gb356, 3, none⟩) (Kd.R_far (p := ⟨gb356, 2, none⟩) (Kd.R_far (p := ⟨gb356, 1, none⟩) (Kd.R_far (p := ⟨gb356, 0, none⟩) (Kd.R_far (p := ⟨gb355, 4, none⟩) (Kd.R_types (Kd.R_types HO371.out BK355.out (by decide)) BK356.out (by decide)) (fun _ hk => hk.1.2) (.slice Ao25 t369.length co25)) (fun _ hk => hk.2) (.slice Ao14 t357.length co14)) (fun _ hk => hk.2) (.int .i64 a0_1)) (fun _ hk => hk.2) (.int .i64 a0_2)) (fun _ hk => hk.2) (.int .i64 a0_3)) (fun _ hk => hk.2) (.slice Ao25 t369.length co25)) (fun _ hk => hk.2) (.bool a0_5)) (fun _ hk => hk.2) (.slice Ao16 t360.length co16)) (fun _ hk => hk.2) (.slice Ao18 t363.length co18)) (fun _ hk => hk.2) (.slice Ao20 t366.length co20)) (fun _ hk => ⟨hk.1.1.1.2, hk.1.1.2⟩), by (with_reducible repeat (first | apply Kd.R_alloc | apply Kd.R_drewN | apply Kd.R_drew)); exact Kd.R_mono (Kd.R_far (p := ⟨gb356, 8, none⟩) (Kd.R_far (p := ⟨gb356, 7, none⟩) (Kd.R_far (p := ⟨gb356, 6, none⟩) (Kd.R_far (p := ⟨gb356, 5, none⟩) (Kd.R_far (p := ⟨gb356, 4, none⟩) (Kd.R_far (p := ⟨gb356, 3, none⟩) (Kd.R_far (p := ⟨gb356, 2, none⟩) (Kd.R_far (p := ⟨gb356, 1, none⟩) (Kd.R_far (p := ⟨gb356, 0, none⟩) (Kd.R_far (p := ⟨gb355, 4, none⟩) (Kd.R_types (Kd.R_types HO362.out BK355.out (by decide)) BK356.out (by decide)) (fun _ hk => hk.1.2) (.slice Ao25 t369.length co25)) (fun _ hk => hk.2) (.slice Ao14 t357.length co14)) (fun _ hk => hk.2) (.int .i64 a0_1)) (fun _ hk => hk.2) (.int .i64 a0_2)) (fun _ hk => hk.2) (.int .i64 a0_3)) (fun _ hk => hk.2) (.slice Ao25 t369.length co25)) (fun _ hk => hk.2) (.bool a0_5)) (fun _ hk => hk.2) (.slice Ao16 t360.length co16)) (fun _ hk => hk.2) (.slice Ao18 t363.length co18)) (fun _ hk => hk.2) (.slice Ao20 t366.length co20)) (fun _ hk => trivial), by (with_reducible repeat (first | apply Kd.R_alloc | apply Kd.R_drewN | apply Kd.R_drew)); exact Kd.R_mono (Kd.R_far (p := ⟨gb356, 8, none⟩) (Kd.R_far (p := ⟨gb356, 7, none⟩) (Kd.R_far (p := ⟨gb356, 6, none⟩) (Kd.R_far (p := ⟨gb356, 5, none⟩) (Kd.R_far (p := ⟨gb356, 4, none⟩) (Kd.R_far (p := ⟨gb356, 3, none⟩) (Kd.R_far (p := ⟨gb356, 2, none⟩) (Kd.R_far (p := ⟨gb356, 1, none⟩) (Kd.R_far (p := ⟨gb356, 0, none⟩) (Kd.R_far (p := ⟨gb355, 4, none⟩) (Kd.R_types (Kd.R_types HO365.out BK355.out (by decide)) BK356.out (by decide)) (fun _ hk => hk.1.2) (.slice Ao25 t369.length co25)) (fun _ hk => hk.2) (.slice Ao14 t357.length co14)) (fun _ hk => hk.2) (.int .i64 a0_1)) (fun _ hk => hk.2) (.int .i64 a0_2)) (fun _ hk => hk.2) (.int .i64 a0_3)) (fun _ hk => hk.2) (.slice Ao25 t369.length co25)) (fun _ hk => hk.2) (.bool a0_5)) (fun _ hk => hk.2) (.slice Ao16 t360.length co16)) (fun _ hk => hk.2) (.slice Ao18 t363.length co18)) (fun _ hk => hk.2) (.slice Ao20 t366.length co20)) (fun _ hk => ⟨hk.1.1.2, hk.1.1.1.2⟩), by (with_reducible repeat (first | apply Kd.R_alloc | apply Kd.R_drewN | apply Kd.R_drew)); exact Kd.R_mono (Kd.R_far (p := ⟨gb356, 8, none⟩) (Kd.R_far (p := ⟨gb356, 7, none⟩) (Kd.R_far (p := ⟨gb356, 6, none⟩) (Kd.R_far (p := ⟨gb356, 5, none⟩) (Kd.R_far (p := ⟨gb356, 4, none⟩) (Kd.R_far (p := ⟨gb356, 3, none⟩) (Kd.R_far (p := ⟨gb356, 2, none⟩) (Kd.R_far (p := ⟨gb356, 1, none⟩) (Kd.R_far (p := ⟨gb356, 0, none⟩) (Kd.R_far (p := ⟨gb355, 4, none⟩) (Kd.R_types (Kd.R_types HO368.out BK355.out (by decide)) BK356.out (by decide)) (fun _ hk => hk.1.2) (.slice Ao25 t369.length co25)) (fun _ hk => hk.2) (.slice Ao14 t357.length co14)) (fun _ hk => hk.2) (.int .i64 a0_1)) (fun _ hk => hk.2) (.int .i64 a0_2)) (fun _ hk => hk.2) (.int .i64 a0_3)) (fun _ hk => hk.2) (.slice Ao25 t369.length co25)) (fun _ hk => hk.2) (.bool a0_5)) (fun _ hk => hk.2) (.slice Ao16 t360.length co16)) (fun _ hk => hk.2) (.slice Ao18 t363.length co18)) (fun _ hk => hk.2) (.slice Ao20 t366.length co20)) (fun _ hk => ⟨hk.1.1.2, hk.1.1.1.2⟩), bb HB⟩
def impl_PlayGame.f (a0_0 : Int) (a0_1 : Int) (a0_2 : Int) (a0_3 : Int) (a0_4 : Int) (a1 : Int) : Option (Int × Int × Int × Int × Int) := (impl_within.f a1 1 3).bind fun t1506 => (if t1506 = true then (if a1 = 1 then (if a1 = 3 then (some (a0_0, a0_1, 1, 1, 1)) else (some (a0_0, a0_1, 1, 0, 1))) else (if a1 = 3 then (some (a0_0, a0_1, 0, 1, 1)) else (some (a0_0, a0_1, 0, 0, 1)))) else (some (a0_0, a0_1, a0_2, a0_3, a0_4)))
theorem impl_PlayGame.calls (a0_0 : Int) (a0_1 : Int) (a0_2 : Int) (a0_3 : Int) (a0_4 : Int) (a1 : Int) (r1 : Int) (r2 : Int) (r3 : Int) (r4 : Int) (r5 : Int) (w : World) (h : impl_PlayGame.f a0_0 a0_1 a0_2 a0_3 a0_4 a1 = some (r1, r2, r3, r4, r5)) :
    Calls Try.prog 144 #[.agg #[.int .i64 a0_0, .int .i64 a0_1, .int .i64 a0_2, .int .i64 a0_3, .int .i64 a0_4], .int .i64 a1] w fun e w' => e = .returned (.agg #[.int .i64 r1, .int .i64 r2, .int .i64 r3, .int .i64 r4, .int .i64 r5]) ∧ Below w.heap.size w w' := by
  unfold impl_PlayGame.f at h
  obtain ⟨b, hb, h⟩ := Option.bind_eq_some_iff.mp h
  have hb' := hb
  have HW := dk hb
  clear hb
  unfold impl_within.f at hb'
  by_cases hc0 : 1 ≤ a1 ∧ a1 ≤ 3
  · have hbt : b = true := by rw [if_pos hc0.1] at hb'; simpa [hc0.2] using hb'.symm
    subst hbt
    clear hb'
    rw [if_pos rfl] at h
    have hc : a1 = 1 ∨ a1 = 2 ∨ a1 = 3 := by omega
    rcases hc with rfl | rfl | rfl
    all_goals
      simp at h
      obtain ⟨rfl, rfl, rfl, rfl, rfl⟩ := h
      clear hc0
      go_enter Try.func144, Try.ntmps144
      have sd := my_setCell_drewN
      have ad := my_alloc_drewN
      go_wp2_with (go_at_call 128; refine (impl_within.calls _ _ _ _ _ HW.out).mono ?_; rintro e w' ⟨rfl, ⟨nd, rfl⟩⟩)
      refine bodyPost_ret (v := .agg #[.int .i64 _, .int .i64 _, .int .i64 _, .int .i64 _, .int .i64 _]) (by simp [results, Try.results144, go_sem]) rfl ⟨rfl, (by repeat (first | exact Below.refl _ _ | apply below_alloc | apply pw_below_drewN | apply below_drew1 | refine below_set ?_ (by simp; try omega)))⟩
  · have hbt : b = false := by
      by_cases h1 : 1 ≤ a1
      · rw [if_pos h1] at hb'; simp at hb'; rw [← hb']; simp; omega
      · rw [if_neg h1] at hb'; simpa using hb'.symm
    subst hbt
    clear hb'
    simp at h
    obtain ⟨rfl, rfl, rfl, rfl, rfl⟩ := h
    clear hc0
    go_enter Try.func144, Try.ntmps144
    have sd := my_setCell_drewN
    have ad := my_alloc_drewN
    go_wp2_with (go_at_call 128; refine (impl_within.calls _ _ _ _ _ HW.out).mono ?_; rintro e w' ⟨rfl, ⟨nd, rfl⟩⟩)
    refine bodyPost_ret (v := .agg #[.int .i64 _, .int .i64 _, .int .i64 _, .int .i64 _, .int .i64 _]) (by simp [results, Try.results144, go_sem]) rfl ⟨rfl, (by repeat (first | exact Below.refl _ _ | apply below_alloc | apply pw_below_drewN | apply below_drew1 | refine below_set ?_ (by simp; try omega)))⟩
def impl_played.l0 : Nat → List Int → List Int → Int → Int → List (S139) → Int → Int → Int → List Int → Bool → List (S95) → List Int → List Int → Option ((List (S139)) × Int × Int × Int × List Int × Bool × (List (S95)) × List Int × List Int)
 | 0, _, _, _, _, _, _, _, _, _, _, _, _, _ => none
 | k + 1, x1, x12, x13, x14, x1530000, x1530001, x1530002, x1530003, x1530004, x1530005, x1530006, x1530007, x1530008 => if x14 < x13 then (if 0 ≤ x14 then (if x14 < (x12.length : Int) then (if 0 ≤ (rd x12 x14) then (if (rd x12 x14) < (x1530006.length : Int) then (if x14 < (x1.length : Int) then ((impl_PlayGame.f ((rd_T95 x1530006 (rd x12 x14)).f0) ((rd_T95 x1530006 (rd x12 x14)).f1) ((rd_T95 x1530006 (rd x12 x14)).f2) ((rd_T95 x1530006 (rd x12 x14)).f3) ((rd_T95 x1530006 (rd x12 x14)).f4) (rd x1 x14)).bind fun bt1536 => (impl_played.l0 k x1 x12 x13 (wrap64 (x14 + 1)) x1530000 x1530001 x1530002 x1530003 x1530004 x1530005 (x1530006.set ((rd x12 x14) : Int).toNat (⟨bt1536.1, bt1536.2.1, bt1536.2.2.1, bt1536.2.2.2.1, bt1536.2.2.2.2⟩ : S95)) x1530007 x1530008)) else (none)) else (none)) else (none)) else (none)) else (none)) else (some (x1530000, x1530001, x1530002, x1530003, x1530004, x1530005, x1530006, x1530007, x1530008))
def impl_played.f (k : Nat) (l0_0 : List (S139)) (a0_1 : Int) (a0_2 : Int) (a0_3 : Int) (l0_4 : List Int) (a0_5 : Bool) (l0_6 : List (S95)) (l0_7 : List Int) (l0_8 : List Int) (l1 : List Int) : Option ((List (S139)) × Int × Int × Int × List Int × Bool × (List (S95)) × List Int × List Int) := (impl_Book_copied.f l0_0 a0_1 a0_2 a0_3 l0_4 a0_5 l0_6 l0_7 l0_8).bind fun bt1510 => ((impl_OpenGames.f l0_6).bind fun t1530 => (impl_played.l0 k l1 t1530 (t1530.length : Int) 0 bt1510.1 bt1510.2.1 bt1510.2.2.1 bt1510.2.2.2.1 bt1510.2.2.2.2.1 bt1510.2.2.2.2.2.1 bt1510.2.2.2.2.2.2.1 bt1510.2.2.2.2.2.2.2.1 bt1510.2.2.2.2.2.2.2.2))
def impl_played.T5 : Bool × List (List Nat × List Nat) := (true, [([], []), ([0], [0]), ([], []), ([], []), ([3], [3]), ([], []), ([4, 5], [4, 5]), ([6], [6]), ([], []), ([], []), ([8, 9], [8, 9]), ([10], [10]), ([7, 11], [7, 11]), ([1, 2, 0, 1, 2, 3, 4, 5, 6, 7, 8, 9, 10, 11, 12], [1, 2]), ([13, 12, 12, 0, 1, 2, 3, 4, 5, 6, 7, 8, 9, 10, 11, 12], [12, 13])])
def impl_played.B5 : List Nat := [0, 1, 0, 0, 8, 0, 56, 120, 0, 0, 768, 1792, 4088, 8191, 16383]
theorem impl_played.tab5 : rtab .any (opsOf Try.f93 5) = impl_played.T5 := by kernel_rfl
theorem impl_played.bits5 : waitsOk impl_played.T5.2 impl_played.B5 = true := by kernel_rfl
theorem impl_played.calls (k : Nat) (A0_0 : Option Addr) (c0_0 : Nat) (l0_0 : List (S139)) (a0_1 : Int) (a0_2 : Int) (a0_3 : Int) (A0_4 : Option Addr) (c0_4 : Nat) (l0_4 : List Int) (a0_5 : Bool) (A0_6 : Option Addr) (c0_6 : Nat) (l0_6 : List (S95)) (A0_7 : Option Addr) (c0_7 : Nat) (l0_7 : List Int) (A0_8 : Option Addr) (c0_8 : Nat) (l0_8 : List Int) (A1 : Option Addr) (c1 : Nat) (l1 : List Int) (r1 : List (S139)) (r2 : Int) (r3 : Int) (r4 : Int) (r5 : List Int) (r6 : Bool) (r7 : List (S95)) (r8 : List Int) (r9 : List Int) (w : World) (hr0_0 : Kd.C k139 w A0_0 l0_0.length l0_0) (hc0_0 : l0_0.length ≤ c0_0) (hr0_4 : Kd.C (Kd.int .i64) w A0_4 l0_4.length l0_4) (hc0_4 : l0_4.length ≤ c0_4) (hr0_6 : Kd.C k95 w A0_6 l0_6.length l0_6) (hc0_6 : l0_6.length ≤ c0_6) (hr0_7 : Kd.C (Kd.int .i64) w A0_7 l0_7.length l0_7) (hc0_7 : l0_7.length ≤ c0_7) (hr0_8 : Kd.C (Kd.int .i64) w A0_8 l0_8.length l0_8) (hc0_8 : l0_8.length ≤ c0_8) (hr1 : Kd.C (Kd.int .i64) w A1 l1.length l1) (hc1 : l1.length ≤ c1) (h : impl_played.f k l0_0 a0_1 a0_2 a0_3 l0_4 a0_5 l0_6 l0_7 l0_8 l1 = some (r1, r2, r3, r4, r5, r6, r7, r8, r9)) :
  Calls Try.prog 93 #[.agg #[.slice A0_0 l0_0.length c0_0, .int .i64 a0_1, .int .i64 a0_2, .int .i64 a0_3, .slice A0_4 l0_4.length c0_4, .bool a0_5, .slice A0_6 l0_6.length c0_6, .slice A0_7 l0_7.length c0_7, .slice A0_8 l0_8.length c0_8], .slice A1 l1.length c1] w fun e w' => ∃ v0_ v4_ v6_ v7_ v8_ : Value, e = .returned (.agg #[v0_, .int .i64 r2, .int .i64 r3, .int .i64 r4, v4_, .bool r6, v6_, v7_, v8_]) ∧ Kd.R k139 139 w' w.heap.size (fun _ => True) v0_ r1 ∧ Kd.R (Kd.int .i64) 3 w' w.heap.size (fun k_ => some k_ ≠ (v7_ : Value).ownBlock ∧ some k_ ≠ (v8_ : Value).ownBlock) v4_ r5 ∧ Kd.R k95 95 w' w.heap.size (fun _ => True) v6_ r7 ∧ Kd.R (Kd.int .i64) 3 w' w.heap.size (fun k_ => some k_ ≠ (v4_ : Value).ownBlock ∧ some k_ ≠ (v8_ : Value).ownBlock) v7_ r8 ∧ Kd.R (Kd.int .i64) 3 w' w.heap.size (fun k_ => some k_ ≠ (v4_ : Value).ownBlock ∧ some k_ ≠ (v7_ : Value).ownBlock) v8_ r9 ∧ Below w.heap.size w w' := by
 have hu36 := Try.underlying36
 have hu95 := Try.underlying95
 have HR0_0 := dk hr0_0
 have HC0_0 := dk hc0_0
 clear hr0_0 hc0_0
 have HR0_4 := dk hr0_4
 have HC0_4 := dk hc0_4
 clear hr0_4 hc0_4
 have HR0_6 := dk hr0_6
 have HC0_6 := dk hc0_6
 clear hr0_6 hc0_6
 have HR0_7 := dk hr0_7
 have HC0_7 := dk hc0_7
 clear hr0_7 hc0_7
 have HR0_8 := dk hr0_8
 have HC0_8 := dk hc0_8
 clear hr0_8 hc0_8
 have HR1 := dk hr1
 have HC1 := dk hc1
 clear hr1 hc1
 have HB := hb0 w
 have H : ((impl_Book_copied.f l0_0 a0_1 a0_2 a0_3 l0_4 a0_5 l0_6 l0_7 l0_8).bind fun bt1510 => ((impl_OpenGames.f l0_6).bind fun t1530 => (impl_played.l0 k l1 t1530 (t1530.length : Int) 0 bt1510.1 bt1510.2.1 bt1510.2.2.1 bt1510.2.2.2.1 bt1510.2.2.2.2.1 bt1510.2.2.2.2.2.1 bt1510.2.2.2.2.2.2.1 bt1510.2.2.2.2.2.2.2.1 bt1510.2.2.2.2.2.2.2.2))) = some (r1, r2, r3, r4, r5, r6, r7, r8, r9) := h
 clear h
 replace H := Option.bind_eq_some_iff.mp H
 obtain ⟨⟨t1510, t1513, t1514, t1515, t1516, t1519, t1520, t1523, t1526⟩, A30, H⟩ := H
 replace H : ((impl_OpenGames.f l0_6).bind fun t1530 => (impl_played.l0 k l1 t1530 (t1530.length : Int) 0 t1510 t1513 t1514 t1515 t1516 t1519 t1520 t1523 t1526)) = some (r1, r2, r3, r4, r5, r6, r7, r8, r9) := H
 have A3 := dk A30
 clear A30
 replace H := Option.bind_eq_some_iff.mp H
 obtain ⟨t1530, A40, H⟩ := H
 replace H : (impl_played.l0 k l1 t1530 (t1530.length : Int) 0 t1510 t1513 t1514 t1515 t1516 t1519 t1520 t1523 t1526) = some (r1, r2, r3, r4, r5, r6, r7, r8, r9) := H
 have A4 := dk A40
 clear A40
 have H' := dk H
 clear H
 go_enter Try.func93, Try.ntmps93
 go_wp2_with (first | ((with_reducible refine gdst_ 2 rfl ?_); refine bx (N := 2) (cs := #[.slice A0_0 l0_0.length c0_0, .int .i64 a0_1, .int .i64 a0_2, .int .i64 a0_3, .slice A0_4 l0_4.length c0_4, .bool a0_5, .slice A0_6 l0_6.length c0_6, .slice A0_7 l0_7.length c0_7, .slice A0_8 l0_8.length c0_8]) (t := 36) ?_; intro gb1508 hg w5 hbox hb; have BK1508 := dk (hbox); have GW1508 := gs hg HB; have GE1508 := gs hg HB; replace HB := hs_ HB hb; clear hb hbox hg) | ((with_reducible refine gdst_ 4 rfl ?_); refine bx (N := 4) (cs := #[.slice none 0 0, .int .i64 0, .int .i64 0, .int .i64 0, .slice none 0 0, .bool false, .slice none 0 0, .slice none 0 0, .slice none 0 0]) (t := 36) ?_; intro gb1509 hg w6 hbox hb; have BK1509 := dk (hbox); have GW1509 := gs hg HB; have GE1509 := gs hg HB; replace HB := hs_ HB hb; have NB1508_1509 := gn hg BK1508; have NB1509_1508 := gm hg BK1508; replace BK1508 := kb BK1508 hb; clear hb hbox hg; have hnb7 := NB1508_1509.out; have hnc7 := NB1509_1508.out; have ⟨z8_0, z8_1, z8_2, z8_3, z8_4, z8_5, z8_6, z8_7, z8_8, v8_0, v8_1, v8_2, v8_3, v8_4, v8_5, v8_6, v8_7, v8_8⟩ := rz9 BK1508) | ((with_reducible refine gcallee_ 62 rfl ?_); refine gl (some 9) Try.func62 #[.agg #[.slice A0_0 l0_0.length c0_0, .int .i64 a0_1, .int .i64 a0_2, .int .i64 a0_3, .slice A0_4 l0_4.length c0_4, .bool a0_5, .slice A0_6 l0_6.length c0_6, .slice A0_7 l0_7.length c0_7, .slice A0_8 l0_8.length c0_8]] ?_; (with_reducible refine (impl_Book_copied.calls _ _ l0_0 a0_1 a0_2 a0_3 _ _ l0_4 a0_5 _ _ l0_6 _ _ l0_7 _ _ l0_8 t1510 t1513 t1514 t1515 t1516 t1519 t1520 t1523 t1526 _ ?side1 ?side2 ?side3 ?side4 ?side5 ?side6 ?side7 ?side8 ?side9 ?side10 A3.out).mono ?_); (case side1 => exact cc HR0_0 HB); (case side2 => exact HC0_0.out); (case side3 => exact cc HR0_4 HB); (case side4 => exact HC0_4.out); (case side5 => exact cc HR0_6 HB); (case side6 => exact HC0_6.out); (case side7 => exact cc HR0_7 HB); (case side8 => exact HC0_7.out); (case side9 => exact cc HR0_8 HB); (case side10 => exact HC0_8.out); rintro e w9 ⟨v1511, v1517, v1521, v1524, v1527, rfl, ho0, ho1, ho2, ho3, ho4, hb⟩; refine ⟨_, rfl, ?_⟩; have HO1512 := kl ho0 HB; have HO1518 := kl ho1 HB; have HO1522 := kl ho2 HB; have HO1525 := kl ho3 HB; have HO1528 := kl ho4 HB; replace BK1508 := kb BK1508 hb; replace BK1509 := kb BK1509 hb; replace HB := hs_ HB hb) | ((with_reducible refine gdst_ 5 rfl ?_); refine bx (N := 5) (cs := #[.slice none 0 0, .int .i64 0, .int .i64 0, .int .i64 0, .slice none 0 0, .bool false, .slice none 0 0, .slice none 0 0, .slice none 0 0]) (t := 36) ?_; intro gb1529 hg w10 hbox hb; replace HO1512 := kr HO1512 hb; replace HO1518 := kr HO1518 hb; replace HO1522 := kr HO1522 hb; replace HO1525 := kr HO1525 hb; replace HO1528 := kr HO1528 hb; have BK1529 := dk (hbox); have GW1529 := gs hg HB; have GE1529 := gs hg HB; replace HB := hs_ HB hb; have NB1508_1529 := gn hg BK1508; have NB1529_1508 := gm hg BK1508; replace BK1508 := kb BK1508 hb; have NB1509_1529 := gn hg BK1509; have NB1529_1509 := gm hg BK1509; replace BK1509 := kb BK1509 hb; clear hb hbox hg; obtain ⟨Ao11, co11, eo11⟩ := Kd.R_slice HO1512.out; subst eo11; have hnb12 := NB1529_1508.out; have hnc12 := NB1508_1529.out; have hnb13 := NB1529_1509.out; have hnc13 := NB1509_1529.out; have ⟨z14_0, z14_1, z14_2, z14_3, z14_4, z14_5, z14_6, z14_7, z14_8, v14_0, v14_1, v14_2, v14_3, v14_4, v14_5, v14_6, v14_7, v14_8⟩ := rz9 BK1529; obtain ⟨Ao15, co15, eo15⟩ := Kd.R_slice HO1518.out; subst eo15; obtain ⟨Ao16, co16, eo16⟩ := Kd.R_slice HO1522.out; subst eo16; obtain ⟨Ao17, co17, eo17⟩ := Kd.R_slice HO1525.out; subst eo17; obtain ⟨Ao18, co18, eo18⟩ := Kd.R_slice HO1528.out; subst eo18; have ⟨z19_0, z19_1, z19_2, z19_3, z19_4, z19_5, z19_6, z19_7, z19_8, v19_0, v19_1, v19_2, v19_3, v19_4, v19_5, v19_6, v19_7, v19_8⟩ := rz9 BK1508) | ((with_reducible refine gcallee_ 91 rfl ?_); refine gl (some 12) Try.func91 #[.slice A0_6 l0_6.length c0_6] ?_; (with_reducible refine (impl_OpenGames.calls _ _ l0_6 t1530 _ ?side1 ?side2 A4.out).mono ?_); (case side1 => exact Kd.C_below HR0_6.out (bb HB)); (case side2 => exact HC0_6.out); rintro e w20 ⟨v1531, rfl, ho0, hb⟩; refine ⟨_, rfl, ?_⟩; replace HO1512 := kf HO1512 BK1529 hb; replace HO1522 := kf HO1522 BK1529 hb; have HO1532 := dk (Kd.R_lower (Kd.R_new' (Kd.R_new' (Kd.R_new' ho0 (Kd.R_lt (rf HO1518 BK1529 (fun _ h_ => h_.1)))) (Kd.R_lt (rf HO1525 BK1529 (fun _ h_ => h_.1)))) (Kd.R_lt (rf HO1528 BK1529 (fun _ h_ => h_.1)))) (below_size (bb HB))); replace HO1518 := dk (Kd.R_elder' (rf HO1518 BK1529 (fun _ h_ => h_.1)) (Kd.R_base ho0) hb); replace HO1525 := dk (Kd.R_elder' (rf HO1525 BK1529 (fun _ h_ => h_.1)) (Kd.R_base ho0) hb); replace HO1528 := dk (Kd.R_elder' (rf HO1528 BK1529 (fun _ h_ => h_.1)) (Kd.R_base ho0) hb); replace BK1508 := dk (blk_below (bf NB1508_1529.out BK1508) hb); replace BK1509 := dk (blk_below (bf NB1509_1529.out BK1509) hb); replace BK1529 := dk (blk_below (g := gb1529) (o := .cells #[.slice Ao11 t1510.length co11, .int .i64 t1513, .int .i64 t1514, .int .i64 t1515, .slice Ao15 t1516.length co15, .bool t1519, .slice Ao16 t1520.length co16, .slice Ao17 t1523.length co17, .slice Ao18 t1526.length co18] 36 (0, 0)) (bp BK1529) hb); replace HB := hs_ HB hb; obtain ⟨Ao21, co21, eo21⟩ := Kd.R_slice HO1532.out; subst eo21))
 go_loopg [14] k (fun kq v14 w' => ∃ (x14_1 : Int) (x1530006_1 : List (S95)) (u1530006 : Value), v14 = .int .i64 x14_1 ∧ Aside0 (impl_played.l0 kq l1 t1530 (t1530.length : Int) x14_1 t1510 t1513 t1514 t1515 t1516 t1519 x1530006_1 t1523 t1526 = some (r1, r2, r3, r4, r5, r6, r7, r8, r9)) ∧ Aside0 (kq ≤ k) ∧ Aside0 (Kd.R (Kd.int .i64) 3 w' w.heap.size (fun k_ => nb k_ Ao15 t1516.length co15 ∧ nb k_ Ao17 t1523.length co17 ∧ nb k_ Ao18 t1526.length co18) (.slice Ao21 t1530.length co21) t1530) ∧ Aside0 (Kd.R k139 139 w' w.heap.size (fun _ => True) (.slice Ao11 t1510.length co11) t1510) ∧ Aside0 (Kd.R (Kd.int .i64) 3 w' w.heap.size (fun k_ => nb k_ Ao21 t1530.length co21 ∧ nb k_ Ao17 t1523.length co17 ∧ nb k_ Ao18 t1526.length co18) (.slice Ao15 t1516.length co15) t1516) ∧ Aside0 (Kd.R k95 95 w' w.heap.size (fun _ => True) u1530006 x1530006_1) ∧ Aside0 (Kd.R (Kd.int .i64) 3 w' w.heap.size (fun k_ => nb k_ Ao21 t1530.length co21 ∧ nb k_ Ao15 t1516.length co15 ∧ nb k_ Ao18 t1526.length co18) (.slice Ao17 t1523.length co17) t1523) ∧ Aside0 (Kd.R (Kd.int .i64) 3 w' w.heap.size (fun k_ => nb k_ Ao21 t1530.length co21 ∧ nb k_ Ao15 t1516.length co15 ∧ nb k_ Ao17 t1523.length co17) (.slice Ao18 t1526.length co18) t1526) ∧ Aside0 (w'.heap[gb1508]? = some (.cells #[(.slice A0_0 l0_0.length c0_0), .int .i64 a0_1, .int .i64 a0_2, .int .i64 a0_3, (.slice A0_4 l0_4.length c0_4), .bool a0_5, (.slice A0_6 l0_6.length c0_6), (.slice A0_7 l0_7.length c0_7), (.slice A0_8 l0_8.length c0_8)] 36 (0, 0))) ∧ Aside0 (w'.heap[gb1509]? = some (.cells #[(.slice none 0 0), .int .i64 0, .int .i64 0, .int .i64 0, (.slice none 0 0), .bool false, (.slice none 0 0), (.slice none 0 0), (.slice none 0 0)] 36 (0, 0))) ∧ Aside0 (w'.heap[gb1529]? = some (.cells #[(.slice Ao11 t1510.length co11), .int .i64 t1513, .int .i64 t1514, .int .i64 t1515, (.slice Ao15 t1516.length co15), .bool t1519, u1530006, (.slice Ao17 t1523.length co17), (.slice Ao18 t1526.length co18)] 36 (0, 0))) ∧ Aside0 (Below w.heap.size w w'))
 case atStart => exact ⟨(0), (t1520), (.slice Ao16 t1520.length co16), e2_, H', ⟨Nat.le_refl _⟩, ⟨rp HO1532⟩, ⟨rr HO1512⟩, ⟨rp HO1518⟩, ⟨rr HO1522⟩, ⟨rp HO1525⟩, ⟨rp HO1528⟩, ⟨bk BK1508⟩, ⟨bk BK1509⟩, ⟨bk BK1529⟩, ⟨bb HB⟩⟩
 case round =>
  clear H'
  obtain ⟨x14_1, x1530006_1, u1530006, rfl, HA, HK1, HO_12, HO_1530000, HO_1530004, HO_1530006, HO_1530007, HO_1530008, BK1508, BK1509, BK1529, HB⟩ := hrel
  cases gk with
  | zero => exact absurd HA.out (by simp [impl_played.l0])
  | succ k1 =>
   have H := HA.out
   clear HA
   simp only [impl_played.l0] at H
   by_cases c22 : x14_1 < (t1530.length : Int)
   ·rw [if_pos c22] at H
    have c22b0 := decide_eq_true c22
    clear c22
    by_cases c23 : 0 ≤ x14_1
    ·rw [if_pos c23] at H
     have c23b0 := decide_eq_true c23
     clear c23
     by_cases c24 : x14_1 < (t1530.length : Int)
     ·rw [if_pos c24] at H
      have c24b0 := decide_eq_true c24
      clear c24
      by_cases c25 : 0 ≤ (rd t1530 x14_1)
      ·rw [if_pos c25] at H
       have c25b0 := decide_eq_true c25
       clear c25
       by_cases c26 : (rd t1530 x14_1) < (x1530006_1.length : Int)
       ·rw [if_pos c26] at H
        have c26b0 := decide_eq_true c26
        clear c26
        by_cases c27 : x14_1 < (l1.length : Int)
        ·rw [if_pos c27] at H
         have c27b0 := decide_eq_true c27
         clear c27
         replace H := Option.bind_eq_some_iff.mp H
         obtain ⟨⟨t1536, t1537, t1538, t1539, t1540⟩, A280, H⟩ := H
         replace H : (impl_played.l0 k1 l1 t1530 (t1530.length : Int) (wrap64 (x14_1 + 1)) t1510 t1513 t1514 t1515 t1516 t1519 (x1530006_1.set ((rd t1530 x14_1) : Int).toNat (⟨t1536, t1537, t1538, t1539, t1540⟩ : S95)) t1523 t1526) = some (r1, r2, r3, r4, r5, r6, r7, r8, r9) := H
         have A28 := dk A280
         clear A280
         obtain ⟨y1541, hy1541⟩ : ∃ y_ : List (S95), y_ = (x1530006_1.set ((rd t1530 x14_1) : Int).toNat (⟨t1536, t1537, t1538, t1539, t1540⟩ : S95)) := ⟨_, rfl⟩
         replace H : (impl_played.l0 k1 l1 t1530 (t1530.length : Int) (wrap64 (x14_1 + 1)) t1510 t1513 t1514 t1515 t1516 t1519 y1541 t1523 t1526) = some (r1, r2, r3, r4, r5, r6, r7, r8, r9) := by first | (rw [hy1541]; with_reducible exact H) | (have H2_ := (Option.bind_some _ _).symm.trans H; rw [hy1541]; with_reducible exact H2_) | (have H2_ := (Option.bind_some _ _).symm.trans H; with_reducible exact H2_) | with_reducible exact H | (rw [hy1541]; exact H) | exact H
         have Ny1541 := dk hy1541
         clear hy1541
         have H' := dk H
         clear H
         have p1533 : 0 ≤ (x14_1 : Int) := oa
         have q1533 : x14_1 < (t1530.length : Int) := oa
         obtain ⟨ad1533, e1533, hx1533_0⟩ := Kd.at_int (Kd.R_reads' HO_12.out).2.2 x14_1 p1533 q1533
         cases e1533
         replace p1533 := eq_true p1533
         replace q1533 := eq_true q1533
         try go_wp2
         replace HO_12 := dk (Kd.R_drew HO_12.out)
         replace HO_1530000 := dk (Kd.R_drew HO_1530000.out)
         replace HO_1530004 := dk (Kd.R_drew HO_1530004.out)
         replace HO_1530006 := dk (Kd.R_drew HO_1530006.out)
         replace HO_1530007 := dk (Kd.R_drew HO_1530007.out)
         replace HO_1530008 := dk (Kd.R_drew HO_1530008.out)
         replace BK1508 := dk (blk_drew BK1508.out)
         replace BK1509 := dk (blk_drew BK1509.out)
         replace BK1529 := dk (blk_drew BK1529.out)
         replace HB := dk (below_drew1 HB.out)
         obtain ⟨Ao31, co31, eo31⟩ := Kd.R_slice HO_1530006.out
         (first | subst eo31 | (injection eo31 with f1_ f2_ f3_; have f4_ := f1_.symm; have f5_ := f3_.symm; clear f1_ f2_ f3_; subst f4_; subst f5_))
         have p1534 : 0 ≤ ((rd t1530 x14_1) : Int) := oa
         have q1534 : (rd t1530 x14_1) < (x1530006_1.length : Int) := oa
         obtain ⟨ad1534, e1534, hx1534_0, hx1534_1, hx1534_2, hx1534_3, hx1534_4⟩ := at_T95 (Kd.R_reads' HO_1530006.out).2.2 (rd t1530 x14_1) p1534 q1534
         cases e1534
         replace p1534 := eq_true p1534
         replace q1534 := eq_true q1534
         have p1535 : 0 ≤ (x14_1 : Int) := oa
         have q1535 : x14_1 < (l1.length : Int) := oa
         obtain ⟨ad1535, e1535, hx1535_0⟩ := Kd.at_int HR1.out x14_1 p1535 q1535
         have hw1535_0 := hx1535_0
         cases e1535
         replace hx1535_0 := hc HB hx1535_0
         replace p1535 := eq_true p1535
         replace q1535 := eq_true q1535
         refine start_ (n := 15) (S := fun w' => w'.cell? ⟨gb1529, 0, none⟩ = some (.slice Ao11 t1510.length co11) ∧ w'.cell? ⟨gb1529, 1, none⟩ = some (.int .i64 t1513) ∧ w'.cell? ⟨gb1529, 2, none⟩ = some (.int .i64 t1514) ∧ w'.cell? ⟨gb1529, 3, none⟩ = some (.int .i64 t1515) ∧ w'.cell? ⟨gb1529, 4, none⟩ = some (.slice Ao15 t1516.length co15) ∧ w'.cell? ⟨gb1529, 5, none⟩ = some (.bool t1519) ∧ w'.cell? ⟨gb1529, 6, none⟩ = some (.slice (some ad1534) x1530006_1.length co31) ∧ w'.cell? ⟨gb1529, 7, none⟩ = some (.slice Ao17 t1523.length co17) ∧ w'.cell? ⟨gb1529, 8, none⟩ = some (.slice Ao18 t1526.length co18) ∧ w'.cell? (ad1534.add (((rd t1530 x14_1)).toNat * 5)) = some (.int .i64 ((rd_T95 x1530006_1 (rd t1530 x14_1)).f0)) ∧ w'.cell? ⟨(ad1534.add (((rd t1530 x14_1)).toNat * 5)).block, (ad1534.add (((rd t1530 x14_1)).toNat * 5)).off + 1, none⟩ = some (.int .i64 ((rd_T95 x1530006_1 (rd t1530 x14_1)).f1)) ∧ w'.cell? ⟨(ad1534.add (((rd t1530 x14_1)).toNat * 5)).block, (ad1534.add (((rd t1530 x14_1)).toNat * 5)).off + 2, none⟩ = some (.int .i64 ((rd_T95 x1530006_1 (rd t1530 x14_1)).f2)) ∧ w'.cell? ⟨(ad1534.add (((rd t1530 x14_1)).toNat * 5)).block, (ad1534.add (((rd t1530 x14_1)).toNat * 5)).off + 3, none⟩ = some (.int .i64 ((rd_T95 x1530006_1 (rd t1530 x14_1)).f3)) ∧ w'.cell? ⟨(ad1534.add (((rd t1530 x14_1)).toNat * 5)).block, (ad1534.add (((rd t1530 x14_1)).toNat * 5)).off + 4, none⟩ = some (.int .i64 ((rd_T95 x1530006_1 (rd t1530 x14_1)).f4)) ∧ w'.cell? (ad1535.add (x14_1).toNat) = some (.int .i64 (rd l1 x14_1))) (ds := [14]) #[false, false, false, false, false, false, false, false, false, false, false, false, false, false, false] (by kernel_rfl) rfl rfl ⟨bc BK1529 0, bc BK1529 1, bc BK1529 2, bc BK1529 3, bc BK1529 4, bc BK1529 5, bc BK1529 6, bc BK1529 7, bc BK1529 8, hx1534_0, hx1534_1, hx1534_2, hx1534_3, hx1534_4, (hc HB hw1535_0)⟩ (fun hHeld => ?_); refine with_tabW impl_played.tab5 impl_played.bits5 (fun HT_ HW_ => ?_)
         generalize wr.drew = w30 at HO_12 HO_1530000 HO_1530004 HO_1530006 HO_1530007 HO_1530008 BK1508 BK1509 BK1529 HB hx1534_0 hx1534_1 hx1534_2 hx1534_3 hx1534_4 hx1535_0 hHeld ⊢
         refine pz_ 0 19 ?_
         refine pz_ 2 21 ?_
         refine pz_ 3 22 ?_
         refine pz_ 5 24 ?_
         refine pz_ 8 27 ?_
         refine pz_ 9 28 ?_
         refine pz_ 10 29 ?_
         refine tk_ 1 20 ?_
         refine tk_ 4 23 ?_
         refine pz_ 6 25 ?_
         refine tk_ 7 26 ?_
         refine tk_ 11 30 ?_
         refine on_ 12 (some 31) (fun K hK => ?_)
         refine ga_ Try.func144 #[.agg #[.int .i64 ((rd_T95 x1530006_1 (rd t1530 x14_1)).f0), .int .i64 ((rd_T95 x1530006_1 (rd t1530 x14_1)).f1), .int .i64 ((rd_T95 x1530006_1 (rd t1530 x14_1)).f2), .int .i64 ((rd_T95 x1530006_1 (rd t1530 x14_1)).f3), .int .i64 ((rd_T95 x1530006_1 (rd t1530 x14_1)).f4)], .int .i64 (rd l1 x14_1)] ?_
         with_reducible refine (impl_PlayGame.calls ((rd_T95 x1530006_1 (rd t1530 x14_1)).f0) ((rd_T95 x1530006_1 (rd t1530 x14_1)).f1) ((rd_T95 x1530006_1 (rd t1530 x14_1)).f2) ((rd_T95 x1530006_1 (rd t1530 x14_1)).f3) ((rd_T95 x1530006_1 (rd t1530 x14_1)).f4) (rd l1 x14_1) t1536 t1537 t1538 t1539 t1540 _ A28.out).mono ?_
         rintro e w32 ⟨rfl, hb⟩
         have HS9_ := hx_ hb hHeld.2.2.2.2.2.2.2.2.2.1
         have HS10_ := hx_ hb hHeld.2.2.2.2.2.2.2.2.2.2.1
         have HS11_ := hx_ hb hHeld.2.2.2.2.2.2.2.2.2.2.2.1
         have HS12_ := hx_ hb hHeld.2.2.2.2.2.2.2.2.2.2.2.2.1
         have HS13_ := hx_ hb hHeld.2.2.2.2.2.2.2.2.2.2.2.2.2.1
         refine ⟨_, rfl, ?_⟩
         replace HO_12 := kr HO_12 hb
         replace HO_1530000 := kr HO_1530000 hb
         replace HO_1530004 := kr HO_1530004 hb
         replace HO_1530006 := kr HO_1530006 hb
         replace HO_1530007 := kr HO_1530007 hb
         replace HO_1530008 := kr HO_1530008 hb
         replace BK1508 := kb BK1508 hb
         replace BK1509 := kb BK1509 hb
         replace BK1529 := kb BK1529 hb
         replace HB := hs_ HB hb
         have p29 : 0 ≤ ((rd t1530 x14_1) : Int) := oa
         have q29 : ((rd t1530 x14_1) : Int) < ((x1530006_1.length : Int) : Int) := oa
         obtain ⟨go29, co29, eo29, gb29, gl29, cl29, HG29⟩ := Kd.R_form HO_1530006.out (by omega)
         (first | cases eo29 | (injection eo29 with ea_ en_ ec_; (first | subst ea_ | (injection ea_ with ea_; subst ea_)); subst ec_; clear en_))
         have GB29 := dk gb29
         have GG29 := dk HG29
         clear gb29 gl29 HG29
         (first | simp only [add_plain] at hx1534_0 | skip)
         (first | simp only [add_plain] at hx1534_1 | skip)
         (first | simp only [add_plain] at hx1534_2 | skip)
         (first | simp only [add_plain] at hx1534_3 | skip)
         (first | simp only [add_plain] at hx1534_4 | skip)
         obtain ⟨ce29, hcl29, hM29, hcc29, hfr29⟩ := Kd.R_elem HO_1530006.out z95 ((rd t1530 x14_1) : Int) p29 q29
         obtain rfl := k95_openM hM29
         have hx29_0 : World.cell? _ ⟨go29, ((rd t1530 x14_1) : Int).toNat * 5, none⟩ = some (.int .i64 ((rd_T95 x1530006_1 (rd t1530 x14_1)).f0)) := hcc29 0 _ rfl
         have hx29_1 : World.cell? _ ⟨go29, ((rd t1530 x14_1) : Int).toNat * 5 + 1, none⟩ = some (.int .i64 ((rd_T95 x1530006_1 (rd t1530 x14_1)).f1)) := hcc29 1 _ rfl
         have hx29_2 : World.cell? _ ⟨go29, ((rd t1530 x14_1) : Int).toNat * 5 + 2, none⟩ = some (.int .i64 ((rd_T95 x1530006_1 (rd t1530 x14_1)).f2)) := hcc29 2 _ rfl
         have hx29_3 : World.cell? _ ⟨go29, ((rd t1530 x14_1) : Int).toNat * 5 + 3, none⟩ = some (.int .i64 ((rd_T95 x1530006_1 (rd t1530 x14_1)).f3)) := hcc29 3 _ rfl
         have hx29_4 : World.cell? _ ⟨go29, ((rd t1530 x14_1) : Int).toNat * 5 + 4, none⟩ = some (.int .i64 ((rd_T95 x1530006_1 (rd t1530 x14_1)).f4)) := hcc29 4 _ rfl
         have hf29_0 : World.frozen? _ ⟨go29, ((rd t1530 x14_1) : Int).toNat * 5, none⟩ = false := hfr29 0
         have hf29_1 : World.frozen? _ ⟨go29, ((rd t1530 x14_1) : Int).toNat * 5 + 1, none⟩ = false := hfr29 1
         have hf29_2 : World.frozen? _ ⟨go29, ((rd t1530 x14_1) : Int).toNat * 5 + 2, none⟩ = false := hfr29 2
         have hf29_3 : World.frozen? _ ⟨go29, ((rd t1530 x14_1) : Int).toNat * 5 + 3, none⟩ = false := hfr29 3
         have hf29_4 : World.frozen? _ ⟨go29, ((rd t1530 x14_1) : Int).toNat * 5 + 4, none⟩ = false := hfr29 4
         clear hcl29 hcc29 hfr29
         replace p29 := eq_true p29
         replace q29 := eq_true q29
         obtain ⟨ce33, hcl33, hM33, hcc33, hfr33⟩ := Kd.R_elem HO_1530006.out z95 ((rd t1530 x14_1) : Int) (oa) (by have h_ : ((rd t1530 x14_1) : Int) < ((x1530006_1.length : Int) : Int) := oa; first | exact h_ | (have e_ := (Kd.R_reads' HO_1530006.out).1; omega) | simpa using h_)
         obtain rfl := k95_openM hM33
         have HP33 := (Kd.R_seg HO_1530006.out ((rd t1530 x14_1) : Int) (oa) (by have h_ : ((rd t1530 x14_1) : Int) < ((x1530006_1.length : Int) : Int) := oa; first | exact h_ | (have e_ := (Kd.R_reads' HO_1530006.out).1; omega) | simpa using h_) (seg := [.int .i64 t1536, .int .i64 t1537, .int .i64 t1538, .int .i64 t1539, .int .i64 t1540]) (j := 0) hcl33 hcc33 (show 5 ≤ 5 from by decide) (x' := (⟨t1536, t1537, t1538, t1539, t1540⟩ : S95)) (k95_mkM _ _ _ (⟨t1536, t1537, t1538, t1539, t1540⟩ : S95) ) (fun _ hk => hk)).1
         rw [← Ny1541.out] at HP33
         have HQ33 := dk HP33
         clear hcl33 hcc33 hfr33 hM33 HP33
         refine hK.out _ _ ⟨bc BK1529 0, bc BK1529 1, bc BK1529 2, bc BK1529 3, bc BK1529 4, bc BK1529 5, bc BK1529 6, bc BK1529 7, bc BK1529 8, HS9_, HS10_, HS11_, HS12_, HS13_, (hc HB hw1535_0)⟩ (fun hHeld => ?_)
         clear hK K
         refine no_ ?_
         refine pz_ 13 32 ?_
         refine last_ (i := 14) (N := none) #[true, true, true, true, true, true, true, true, true, true, true, true, true, true, true] rfl rfl (one_of HT_.out (by kernel_rfl)) (by decide) (fun K hK => ?_)
         refine skip_ (w1 := ?_) (by rfl) rfl ?_ ?_
         rotate_left
         ·go_simp
          rfl
         refine hK.out _ _ ?_
         clear hK K
         refine done_ (done_of HT_.out (by kernel_rfl)) ?_
         try go_wp2
         go_roundg k1
         case measure => have := HK1.out; omega
         case rel => exact ⟨(wrap64 (x14_1 + 1)), (y1541), (.slice (some ⟨go29, 0, none⟩) x1530006_1.length co31), e2_, H', ⟨by have := HK1.out; omega⟩, ⟨by (with_reducible repeat (first | apply Kd.R_alloc | apply Kd.R_drewN | apply Kd.R_drew)); exact Kd.R_mono (Kd.R_far (p := ⟨go29, ((rd t1530 x14_1) : Int).toNat * 5 + 4, none⟩) (Kd.R_far (p := ⟨go29, ((rd t1530 x14_1) : Int).toNat * 5 + 3, none⟩) (Kd.R_far (p := ⟨go29, ((rd t1530 x14_1) : Int).toNat * 5 + 2, none⟩) (Kd.R_far (p := ⟨go29, ((rd t1530 x14_1) : Int).toNat * 5 + 1, none⟩) (Kd.R_far (p := ⟨go29, ((rd t1530 x14_1) : Int).toNat * 5, none⟩) (Kd.R_types HO_12.out GG29.out (by decide)) (fun _ hk => hk.2) (.int .i64 t1536)) (fun _ hk => hk.2) (.int .i64 t1537)) (fun _ hk => hk.2) (.int .i64 t1538)) (fun _ hk => hk.2) (.int .i64 t1539)) (fun _ hk => hk.2) (.int .i64 t1540)) (fun _ hk => ⟨hk.1.1, ⟨hk.1.2.1, hk.1.2.2⟩⟩)⟩, ⟨by (with_reducible repeat (first | apply Kd.R_alloc | apply Kd.R_drewN | apply Kd.R_drew)); exact Kd.R_mono (Kd.R_far (p := ⟨go29, ((rd t1530 x14_1) : Int).toNat * 5 + 4, none⟩) (Kd.R_far (p := ⟨go29, ((rd t1530 x14_1) : Int).toNat * 5 + 3, none⟩) (Kd.R_far (p := ⟨go29, ((rd t1530 x14_1) : Int).toNat * 5 + 2, none⟩) (Kd.R_far (p := ⟨go29, ((rd t1530 x14_1) : Int).toNat * 5 + 1, none⟩) (Kd.R_far (p := ⟨go29, ((rd t1530 x14_1) : Int).toNat * 5, none⟩) (Kd.R_types HO_1530000.out GG29.out (by decide)) (fun _ hk => hk.2) (.int .i64 t1536)) (fun _ hk => hk.2) (.int .i64 t1537)) (fun _ hk => hk.2) (.int .i64 t1538)) (fun _ hk => hk.2) (.int .i64 t1539)) (fun _ hk => hk.2) (.int .i64 t1540)) (fun _ hk => trivial)⟩, ⟨by (with_reducible repeat (first | apply Kd.R_alloc | apply Kd.R_drewN | apply Kd.R_drew)); exact Kd.R_mono (Kd.R_far (p := ⟨go29, ((rd t1530 x14_1) : Int).toNat * 5 + 4, none⟩) (Kd.R_far (p := ⟨go29, ((rd t1530 x14_1) : Int).toNat * 5 + 3, none⟩) (Kd.R_far (p := ⟨go29, ((rd t1530 x14_1) : Int).toNat * 5 + 2, none⟩) (Kd.R_far (p := ⟨go29, ((rd t1530 x14_1) : Int).toNat * 5 + 1, none⟩) (Kd.R_far (p := ⟨go29, ((rd t1530 x14_1) : Int).toNat * 5, none⟩) (Kd.R_types HO_1530004.out GG29.out (by decide)) (fun _ hk => hk.2) (.int .i64 t1536)) (fun _ hk => hk.2) (.int .i64 t1537)) (fun _ hk => hk.2) (.int .i64 t1538)) (fun _ hk => hk.2) (.int .i64 t1539)) (fun _ hk => hk.2) (.int .i64 t1540)) (fun _ hk => ⟨hk.1.1, ⟨hk.1.2.1, hk.1.2.2⟩⟩)⟩, ⟨rr HQ33⟩, ⟨by (with_reducible repeat (first | apply Kd.R_alloc | apply Kd.R_drewN | apply Kd.R_drew)); exact Kd.R_mono (Kd.R_far (p := ⟨go29, ((rd t1530 x14_1) : Int).toNat * 5 + 4, none⟩) (Kd.R_far (p := ⟨go29, ((rd t1530 x14_1) : Int).toNat * 5 + 3, none⟩) (Kd.R_far (p := ⟨go29, ((rd t1530 x14_1) : Int).toNat * 5 + 2, none⟩) (Kd.R_far (p := ⟨go29, ((rd t1530 x14_1) : Int).toNat * 5 + 1, none⟩) (Kd.R_far (p := ⟨go29, ((rd t1530 x14_1) : Int).toNat * 5, none⟩) (Kd.R_types HO_1530007.out GG29.out (by decide)) (fun _ hk => hk.2) (.int .i64 t1536)) (fun _ hk => hk.2) (.int .i64 t1537)) (fun _ hk => hk.2) (.int .i64 t1538)) (fun _ hk => hk.2) (.int .i64 t1539)) (fun _ hk => hk.2) (.int .i64 t1540)) (fun _ hk => ⟨hk.1.1, ⟨hk.1.2.1, hk.1.2.2⟩⟩)⟩, ⟨by (with_reducible repeat (first | apply Kd.R_alloc | apply Kd.R_drewN | apply Kd.R_drew)); exact Kd.R_mono (Kd.R_far (p := ⟨go29, ((rd t1530 x14_1) : Int).toNat * 5 + 4, none⟩) (Kd.R_far (p := ⟨go29, ((rd t1530 x14_1) : Int).toNat * 5 + 3, none⟩) (Kd.R_far (p := ⟨go29, ((rd t1530 x14_1) : Int).toNat * 5 + 2, none⟩) (Kd.R_far (p := ⟨go29, ((rd t1530 x14_1) : Int).toNat * 5 + 1, none⟩) (Kd.R_far (p := ⟨go29, ((rd t1530 x14_1) : Int).toNat * 5, none⟩) (Kd.R_types HO_1530008.out GG29.out (by decide)) (fun _ hk => hk.2) (.int .i64 t1536)) (fun _ hk => hk.2) (.int .i64 t1537)) (fun _ hk => hk.2) (.int .i64 t1538)) (fun _ hk => hk.2) (.int .i64 t1539)) (fun _ hk => hk.2) (.int .i64 t1540)) (fun _ hk => ⟨hk.1.1, ⟨hk.1.2.1, hk.1.2.2⟩⟩)⟩, ⟨bg HO_1530006 BK1508⟩, ⟨bg HO_1530006 BK1509⟩, ⟨bg HO_1530006 BK1529⟩, ⟨bb HB⟩⟩
        ·rw [if_neg c27] at H
         exact absurd H (by simp)
       ·rw [if_neg c26] at H
        exact absurd H (by simp)
      ·rw [if_neg c25] at H
       exact absurd H (by simp)
     ·rw [if_neg c24] at H
      exact absurd H (by simp)
    ·rw [if_neg c23] at H
     exact absurd H (by simp)
   ·rw [if_neg c22] at H
    have c22b0 := decide_eq_false c22
    clear c22
    simp only [Option.some.injEq, Prod.mk.injEq] at H
    obtain ⟨rfl, rfl, rfl, rfl, rfl, rfl, rfl, rfl, rfl⟩ := H
    have hnb34 := NB1529_1508.out
    have hnc34 := NB1508_1529.out
    have hnb35 := NB1529_1509.out
    have hnc35 := NB1509_1529.out
    have ⟨z36_0, z36_1, z36_2, z36_3, z36_4, z36_5, z36_6, z36_7, z36_8, v36_0, v36_1, v36_2, v36_3, v36_4, v36_5, v36_6, v36_7, v36_8⟩ := rz9 BK1529
    have hnb37 := NB1509_1508.out
    have hnc37 := NB1508_1509.out
    have ⟨z38_0, z38_1, z38_2, z38_3, z38_4, z38_5, z38_6, z38_7, z38_8, v38_0, v38_1, v38_2, v38_3, v38_4, v38_5, v38_6, v38_7, v38_8⟩ := rz9 BK1509
    obtain ⟨Ao39, co39, eo39⟩ := Kd.R_slice HO_1530006.out
    subst eo39
    go_wp2
    refine bodyPost_ret (results_cell_row rfl _ _ gb1509 36 #[.slice Ao11 t1510.length co11, .int .i64 t1513, .int .i64 t1514, .int .i64 t1515, .slice Ao15 t1516.length co15, .bool t1519, .slice Ao39 x1530006_1.length co39, .slice Ao17 t1523.length co17, .slice Ao18 t1526.length co18] (0, 0) _ rfl (bp BK1509) Try.underlying36 rfl (by kernel_rfl)) rfl ?_
    exact ⟨_, _, _, _, _, ee, rf HO_1530000 BK1509 (fun _ hk => trivial), rf HO_1530004 BK1509 (fun _ hk => ⟨hk.1.2.1, hk.1.2.2⟩), rf HO_1530006 BK1509 (fun _ hk => trivial), rf HO_1530007 BK1509 (fun _ hk => ⟨hk.1.2.1, hk.1.2.2⟩), rf HO_1530008 BK1509 (fun _ hk => ⟨hk.1.2.1, hk.1.2.2⟩), bb HB⟩
def slices_Max_int_int.l0 : Nat → List Int → Int → Int → Option (Int)
 | 0, _, _, _ => none
 | k + 1, x0, x3, x4 => if x4 < (x0.length : Int) then (if 0 ≤ x4 then (slices_Max_int_int.l0 k x0 (mx x3 (rd x0 x4)) (wrap64 (x4 + 1))) else (none)) else (some x3)
def slices_Max_int_int.f (k : Nat) (l0 : List Int) : Option (Int) := if (l0.length : Int) < 1 then (none) else (if 0 < (l0.length : Int) then (slices_Max_int_int.l0 k l0 (rd l0 0) 1) else (none))
theorem slices_Max_int_int.calls (k : Nat) (A0 : Option Addr) (c0 : Nat) (l0 : List Int) (r : Int) (w : World) (hr0 : Kd.C (Kd.int .i64) w A0 l0.length l0) (hc0 : l0.length ≤ c0) (h : slices_Max_int_int.f k l0 = some r) :
  Calls Try.prog 94 #[.slice A0 l0.length c0] w fun e w' => e = .returned (.int .i64 r) ∧ Below w.heap.size w w' := by
 have HR0 := dk hr0
 have HC0 := dk hc0
 clear hr0 hc0
 have HB := hb0 w
 have H : (if (l0.length : Int) < 1 then (none) else (if 0 < (l0.length : Int) then (slices_Max_int_int.l0 k l0 (rd l0 0) 1) else (none))) = some r := h
 clear h
 by_cases c2 : (l0.length : Int) < 1
 ·rw [if_pos c2] at H
  exact absurd H (by simp)
 ·rw [if_neg c2] at H
  have c2b0 := decide_eq_false c2
  have c2b1 : decide (l0.length < 1) = false := decide_eq_false (by omega)
  clear c2
  by_cases c3 : 0 < (l0.length : Int)
  ·rw [if_pos c3] at H
   have c3b0 := decide_eq_true c3
   have c3b1 : decide (0 < l0.length) = true := decide_eq_true (by omega)
   clear c3
   have H' := dk H
   clear H
   have p1542 : 0 ≤ (0 : Int) := (by omega)
   have q1542 : 0 < (l0.length : Int) := oa
   obtain ⟨ad1542, e1542, hx1542_0⟩ := Kd.at_int HR0.out 0 p1542 q1542
   cases e1542
   have qi1542 : (0 < l0.length) = True := eq_true (by omega)
   (try rw [show ((0 : Int)).toNat = 0 from rfl] at hx1542_0)
   (try rw [Addr.add_zero'] at hx1542_0)
   replace p1542 := eq_true p1542
   replace q1542 := eq_true q1542
   go_enter Try.func94, Try.ntmps94
   go_wp2
   go_loopg [3, 4] k (fun kq v3 v4 w' => ∃ (x3_1 : Int) (x4_1 : Int), v3 = .int .i64 x3_1 ∧ v4 = .int .i64 x4_1 ∧ Aside0 (slices_Max_int_int.l0 kq l0 x3_1 x4_1 = some r) ∧ Aside0 (kq ≤ k) ∧ Aside0 (Below w.heap.size w w'))
   case atStart => exact ⟨(rd l0 0), (1), e2_, e2_, H', ⟨Nat.le_refl _⟩, ⟨bb HB⟩⟩
   case round =>
    clear H'
    obtain ⟨x3_1, x4_1, rfl, rfl, HA, HK1, HB⟩ := hrel
    cases gk with
    | zero => exact absurd HA.out (by simp [slices_Max_int_int.l0])
    | succ k1 =>
     have H := HA.out
     clear HA
     simp only [slices_Max_int_int.l0] at H
     by_cases c4 : x4_1 < (l0.length : Int)
     ·rw [if_pos c4] at H
      have c4b0 := decide_eq_true c4
      clear c4
      by_cases c5 : 0 ≤ x4_1
      ·rw [if_pos c5] at H
       have c5b0 := decide_eq_true c5
       clear c5
       obtain ⟨ji6, hji6⟩ : ∃ j_ : Int, (mx x3_1 (rd l0 x4_1)) = j_ := ⟨_, rfl⟩
       replace H : (slices_Max_int_int.l0 k1 l0 ji6 (wrap64 (x4_1 + 1))) = some r := by first | (rw [hji6] at H; exact H) | (simp only [hji6] at H ⊢; exact H)
       have hji6_ : (if x3_1 < (rd l0 x4_1) then (rd l0 x4_1) else x3_1) = ji6 := hji6
       have H' := dk H
       clear H
       have p1543 : 0 ≤ (x4_1 : Int) := oa
       have q1543 : x4_1 < (l0.length : Int) := oa
       obtain ⟨ad1543, e1543, hx1543_0⟩ := Kd.at_int HR0.out x4_1 p1543 q1543
       obtain rfl : ad1542 = ad1543 := (by injection e1543)
       replace hx1543_0 := hc HB hx1543_0
       replace p1543 := eq_true p1543
       replace q1543 := eq_true q1543
       go_wp2
       go_roundg k1
       case measure => have := HK1.out; omega
       case rel => exact ⟨(ji6), (wrap64 (x4_1 + 1)), (by first | rfl | (simp; done) | (simp only [← hji6] <;> (first | rfl | simp)) | (simp [*]; done)), e2_, H', ⟨by have := HK1.out; omega⟩, ⟨bb HB⟩⟩
      ·rw [if_neg c5] at H
       exact absurd H (by simp)
     ·rw [if_neg c4] at H
      have c4b0 := decide_eq_false c4
      clear c4
      obtain rfl := Option.some.inj H
      go_wp2
      go_ret
      exact ⟨ee, bb HB⟩
  ·rw [if_neg c3] at H
   exact absurd H (by simp)
def impl_plays.f (a0_0 : Int) (a0_1 : Int) (a0_2 : Int) (a0_3 : Int) (a0_4 : Int) (a1 : Int) : Option (Bool) := if a0_0 = a1 then (some true) else (some (a0_1 == a1))
theorem impl_plays.calls (a0_0 : Int) (a0_1 : Int) (a0_2 : Int) (a0_3 : Int) (a0_4 : Int) (a1 : Int) (r : Bool) (w : World) (h : impl_plays.f a0_0 a0_1 a0_2 a0_3 a0_4 a1 = some r) :
  Calls Try.prog 80 #[.agg #[.int .i64 a0_0, .int .i64 a0_1, .int .i64 a0_2, .int .i64 a0_3, .int .i64 a0_4], .int .i64 a1] w fun e w' => e = .returned (.bool r) ∧ Below w.heap.size w w' := by
 have hu95 := Try.underlying95
 have HB := hb0 w
 have H : (if a0_0 = a1 then (some true) else (some (a0_1 == a1))) = some r := h
 clear h
 by_cases c3 : a0_0 = a1
 ·rw [if_pos c3] at H
  have c3b0 := beq_iff_eq.mpr c3
  have c3b1 := bne_eq_false_iff_eq.mpr c3
  clear c3
  obtain rfl := Option.some.inj H
  go_enter Try.func80, Try.ntmps80
  go_wp2_with (first | ((with_reducible refine gdst_ 2 rfl ?_); refine bx (N := 2) (cs := #[.int .i64 a0_0, .int .i64 a0_1, .int .i64 a0_2, .int .i64 a0_3, .int .i64 a0_4]) (t := 95) ?_; intro gb372 hg w4 hbox hb; have BK372 := dk (hbox); have GW372 := gs hg HB; have GE372 := gs hg HB; replace HB := hs_ HB hb; clear hb hbox hg; have ⟨z5_0, z5_1, z5_2, z5_3, z5_4, v5_0, v5_1, v5_2, v5_3, v5_4⟩ := rz5 BK372))
  go_ret
  exact ⟨ee, bb HB⟩
 ·rw [if_neg c3] at H
  have c3b0 := beq_eq_false_iff_ne.mpr c3
  have c3b1 := bne_iff_ne.mpr c3
  obtain rfl := Option.some.inj H
  go_enter Try.func80, Try.ntmps80
  go_wp2_with (first | ((with_reducible refine gdst_ 2 rfl ?_); refine bx (N := 2) (cs := #[.int .i64 a0_0, .int .i64 a0_1, .int .i64 a0_2, .int .i64 a0_3, .int .i64 a0_4]) (t := 95) ?_; intro gb372 hg w6 hbox hb; have BK372 := dk (hbox); have GW372 := gs hg HB; have GE372 := gs hg HB; replace HB := hs_ HB hb; clear hb hbox hg; have ⟨z7_0, z7_1, z7_2, z7_3, z7_4, v7_0, v7_1, v7_2, v7_3, v7_4⟩ := rz5 BK372))
  go_ret
  exact ⟨ee, bb HB⟩
def impl_best.l0 : Nat → Int → Int → List Int → Int → Int → List (S139) → Int → Int → Int → List Int → Bool → List (S95) → List Int → List Int → Option (Int)
 | 0, _, _, _, _, _, _, _, _, _, _, _, _, _, _ => none
 | k + 1, x1, x5, x15, x16, x17, x1545000, x1545001, x1545002, x1545003, x1545004, x1545005, x1545006, x1545007, x1545008 => if x17 < x16 then (if 0 ≤ x17 then (if x17 < (x15.length : Int) then (if 0 ≤ (rd x15 x17) then (if (rd x15 x17) < (x1545006.length : Int) then ((impl_plays.f ((rd_T95 x1545006 (rd x15 x17)).f0) ((rd_T95 x1545006 (rd x15 x17)).f1) ((rd_T95 x1545006 (rd x15 x17)).f2) ((rd_T95 x1545006 (rd x15 x17)).f3) ((rd_T95 x1545006 (rd x15 x17)).f4) x1).bind fun t1554 => (if t1554 = true then (impl_best.l0 k x1 (wrap64 (x5 + 2)) x15 x16 (wrap64 (x17 + 1)) x1545000 x1545001 x1545002 x1545003 x1545004 x1545005 x1545006 x1545007 x1545008) else (impl_best.l0 k x1 x5 x15 x16 (wrap64 (x17 + 1)) x1545000 x1545001 x1545002 x1545003 x1545004 x1545005 x1545006 x1545007 x1545008))) else (none)) else (none)) else (none)) else (none)) else (some x5)
def impl_best.f (k : Nat) (l0_0 : List (S139)) (a0_1 : Int) (a0_2 : Int) (a0_3 : Int) (l0_4 : List Int) (a0_5 : Bool) (l0_6 : List (S95)) (l0_7 : List Int) (l0_8 : List Int) (a1 : Int) : Option (Int) := (impl_points.f k l0_0 a0_1 a0_2 a0_3 l0_4 a0_5 l0_6 l0_7 l0_8).bind fun t1545 => (if 0 ≤ a1 then (if a1 < (t1545.length : Int) then ((impl_OpenGames.f l0_6).bind fun t1549 => (impl_best.l0 k a1 (rd t1545 a1) t1549 (t1549.length : Int) 0 l0_0 a0_1 a0_2 a0_3 l0_4 a0_5 l0_6 l0_7 l0_8)) else (none)) else (none))
theorem impl_best.calls (k : Nat) (A0_0 : Option Addr) (c0_0 : Nat) (l0_0 : List (S139)) (a0_1 : Int) (a0_2 : Int) (a0_3 : Int) (A0_4 : Option Addr) (c0_4 : Nat) (l0_4 : List Int) (a0_5 : Bool) (A0_6 : Option Addr) (c0_6 : Nat) (l0_6 : List (S95)) (A0_7 : Option Addr) (c0_7 : Nat) (l0_7 : List Int) (A0_8 : Option Addr) (c0_8 : Nat) (l0_8 : List Int) (a1 : Int) (r : Int) (w : World) (hr0_0 : Kd.C k139 w A0_0 l0_0.length l0_0) (hc0_0 : l0_0.length ≤ c0_0) (hr0_4 : Kd.C (Kd.int .i64) w A0_4 l0_4.length l0_4) (hc0_4 : l0_4.length ≤ c0_4) (hr0_6 : Kd.C k95 w A0_6 l0_6.length l0_6) (hc0_6 : l0_6.length ≤ c0_6) (hr0_7 : Kd.C (Kd.int .i64) w A0_7 l0_7.length l0_7) (hc0_7 : l0_7.length ≤ c0_7) (hr0_8 : Kd.C (Kd.int .i64) w A0_8 l0_8.length l0_8) (hc0_8 : l0_8.length ≤ c0_8) (h : impl_best.f k l0_0 a0_1 a0_2 a0_3 l0_4 a0_5 l0_6 l0_7 l0_8 a1 = some r) :
  Calls Try.prog 96 #[.agg #[.slice A0_0 l0_0.length c0_0, .int .i64 a0_1, .int .i64 a0_2, .int .i64 a0_3, .slice A0_4 l0_4.length c0_4, .bool a0_5, .slice A0_6 l0_6.length c0_6, .slice A0_7 l0_7.length c0_7, .slice A0_8 l0_8.length c0_8], .int .i64 a1] w fun e w' => e = .returned (.int .i64 r) ∧ Below w.heap.size w w' := by
 have hu36 := Try.underlying36
 have hu95 := Try.underlying95
 have HR0_0 := dk hr0_0
 have HC0_0 := dk hc0_0
 clear hr0_0 hc0_0
 have HR0_4 := dk hr0_4
 have HC0_4 := dk hc0_4
 clear hr0_4 hc0_4
 have HR0_6 := dk hr0_6
 have HC0_6 := dk hc0_6
 clear hr0_6 hc0_6
 have HR0_7 := dk hr0_7
 have HC0_7 := dk hc0_7
 clear hr0_7 hc0_7
 have HR0_8 := dk hr0_8
 have HC0_8 := dk hc0_8
 clear hr0_8 hc0_8
 have HB := hb0 w
 have H : ((impl_points.f k l0_0 a0_1 a0_2 a0_3 l0_4 a0_5 l0_6 l0_7 l0_8).bind fun t1545 => (if 0 ≤ a1 then (if a1 < (t1545.length : Int) then ((impl_OpenGames.f l0_6).bind fun t1549 => (impl_best.l0 k a1 (rd t1545 a1) t1549 (t1549.length : Int) 0 l0_0 a0_1 a0_2 a0_3 l0_4 a0_5 l0_6 l0_7 l0_8)) else (none)) else (none))) = some r := h
 clear h
 replace H := Option.bind_eq_some_iff.mp H
 obtain ⟨t1545, A30, H⟩ := H
 try dsimp only at H
 have A3 := dk A30
 clear A30
 by_cases c4 : 0 ≤ a1
 ·rw [if_pos c4] at H
  have c4b0 := decide_eq_true c4
  clear c4
  by_cases c5 : a1 < (t1545.length : Int)
  ·rw [if_pos c5] at H
   have c5b0 := decide_eq_true c5
   clear c5
   replace H := Option.bind_eq_some_iff.mp H
   obtain ⟨t1549, A60, H⟩ := H
   try dsimp only at H
   have A6 := dk A60
   clear A60
   have H' := dk H
   clear H
   go_enter Try.func96, Try.ntmps96
   go_wp2_with (first | ((with_reducible refine gdst_ 2 rfl ?_); refine bx (N := 2) (cs := #[.slice A0_0 l0_0.length c0_0, .int .i64 a0_1, .int .i64 a0_2, .int .i64 a0_3, .slice A0_4 l0_4.length c0_4, .bool a0_5, .slice A0_6 l0_6.length c0_6, .slice A0_7 l0_7.length c0_7, .slice A0_8 l0_8.length c0_8]) (t := 36) ?_; intro gb1544 hg w7 hbox hb; have BK1544 := dk (hbox); have GW1544 := gs hg HB; have GE1544 := gs hg HB; replace HB := hs_ HB hb; clear hb hbox hg; have ⟨z8_0, z8_1, z8_2, z8_3, z8_4, z8_5, z8_6, z8_7, z8_8, v8_0, v8_1, v8_2, v8_3, v8_4, v8_5, v8_6, v8_7, v8_8⟩ := rz9 BK1544) | ((with_reducible refine gcallee_ 92 rfl ?_); refine gl (some 9) Try.func92 #[.agg #[.slice A0_0 l0_0.length c0_0, .int .i64 a0_1, .int .i64 a0_2, .int .i64 a0_3, .slice A0_4 l0_4.length c0_4, .bool a0_5, .slice A0_6 l0_6.length c0_6, .slice A0_7 l0_7.length c0_7, .slice A0_8 l0_8.length c0_8]] ?_; (with_reducible refine (impl_points.calls k _ _ l0_0 a0_1 a0_2 a0_3 _ _ l0_4 a0_5 _ _ l0_6 _ _ l0_7 _ _ l0_8 t1545 _ ?side1 ?side2 ?side3 ?side4 ?side5 ?side6 ?side7 ?side8 ?side9 ?side10 A3.out).mono ?_); (case side1 => exact cc HR0_0 HB); (case side2 => exact HC0_0.out); (case side3 => exact cc HR0_4 HB); (case side4 => exact HC0_4.out); (case side5 => exact cc HR0_6 HB); (case side6 => exact HC0_6.out); (case side7 => exact cc HR0_7 HB); (case side8 => exact HC0_7.out); (case side9 => exact cc HR0_8 HB); (case side10 => exact HC0_8.out); rintro e w9 ⟨v1546, rfl, ho0, hb⟩; refine ⟨_, rfl, ?_⟩; have HO1547 := kl ho0 HB; replace BK1544 := kb BK1544 hb; replace HB := hs_ HB hb; obtain ⟨Ao10, co10, eo10⟩ := Kd.R_slice HO1547.out; subst eo10; have p1548 : 0 ≤ (a1 : Int) := oa; have q1548 : a1 < (t1545.length : Int) := oa; obtain ⟨ad1548, e1548, hx1548_0⟩ := Kd.at_int (Kd.R_reads' HO1547.out).2.2 a1 p1548 q1548; cases e1548; replace p1548 := eq_true p1548; replace q1548 := eq_true q1548; have ⟨z11_0, z11_1, z11_2, z11_3, z11_4, z11_5, z11_6, z11_7, z11_8, v11_0, v11_1, v11_2, v11_3, v11_4, v11_5, v11_6, v11_7, v11_8⟩ := rz9 BK1544) | ((with_reducible refine gcallee_ 91 rfl ?_); refine gl (some 15) Try.func91 #[.slice A0_6 l0_6.length c0_6] ?_; (with_reducible refine (impl_OpenGames.calls _ _ l0_6 t1549 _ ?side1 ?side2 A6.out).mono ?_); (case side1 => exact cc HR0_6 HB); (case side2 => exact HC0_6.out); rintro e w12 ⟨v1550, rfl, ho0, hb⟩; refine ⟨_, rfl, ?_⟩; have HO1551 := dk (Kd.R_lower (Kd.R_new' ho0 (rt HO1547)) (below_size (bb HB))); replace HO1547 := ke HO1547 ho0 hb; replace BK1544 := kb BK1544 hb; replace HB := hs_ HB hb; obtain ⟨Ao13, co13, eo13⟩ := Kd.R_slice HO1551.out; subst eo13))
   go_loopg [5, 17] k (fun kq v5 v17 w' => ∃ (x5_1 : Int) (x17_1 : Int), v5 = .int .i64 x5_1 ∧ v17 = .int .i64 x17_1 ∧ Aside0 (impl_best.l0 kq a1 x5_1 t1549 (t1549.length : Int) x17_1 l0_0 a0_1 a0_2 a0_3 l0_4 a0_5 l0_6 l0_7 l0_8 = some r) ∧ Aside0 (kq ≤ k) ∧ Aside0 (Kd.R (Kd.int .i64) 3 w' w.heap.size (fun _ => True) (.slice Ao13 t1549.length co13) t1549) ∧ Aside0 (w'.heap[gb1544]? = some (.cells #[(.slice A0_0 l0_0.length c0_0), .int .i64 a0_1, .int .i64 a0_2, .int .i64 a0_3, (.slice A0_4 l0_4.length c0_4), .bool a0_5, (.slice A0_6 l0_6.length c0_6), (.slice A0_7 l0_7.length c0_7), (.slice A0_8 l0_8.length c0_8)] 36 (0, 0))) ∧ Aside0 (Below w.heap.size w w'))
   case atStart => exact ⟨(rd t1545 a1), (0), e2_, e2_, H', ⟨Nat.le_refl _⟩, ⟨ro HO1551 (fun _ hk => trivial)⟩, ⟨bk BK1544⟩, ⟨bb HB⟩⟩
   case round =>
    clear H'
    obtain ⟨x5_1, x17_1, rfl, rfl, HA, HK1, HO_15, BK1544, HB⟩ := hrel
    cases gk with
    | zero => exact absurd HA.out (by simp [impl_best.l0])
    | succ k1 =>
     have H := HA.out
     clear HA
     simp only [impl_best.l0] at H
     by_cases c14 : x17_1 < (t1549.length : Int)
     ·rw [if_pos c14] at H
      have c14b0 := decide_eq_true c14
      clear c14
      by_cases c15 : 0 ≤ x17_1
      ·rw [if_pos c15] at H
       have c15b0 := decide_eq_true c15
       clear c15
       by_cases c16 : x17_1 < (t1549.length : Int)
       ·rw [if_pos c16] at H
        have c16b0 := decide_eq_true c16
        clear c16
        by_cases c17 : 0 ≤ (rd t1549 x17_1)
        ·rw [if_pos c17] at H
         have c17b0 := decide_eq_true c17
         clear c17
         by_cases c18 : (rd t1549 x17_1) < (l0_6.length : Int)
         ·rw [if_pos c18] at H
          have c18b0 := decide_eq_true c18
          clear c18
          replace H := Option.bind_eq_some_iff.mp H
          obtain ⟨t1554, A190, H⟩ := H
          try dsimp only at H
          have A19 := dk A190
          clear A190
          by_cases c20 : t1554 = true
          ·subst c20
           rw [if_pos rfl] at H
           have H' := dk H
           clear H
           have p1552 : 0 ≤ (x17_1 : Int) := oa
           have q1552 : x17_1 < (t1549.length : Int) := oa
           obtain ⟨ad1552, e1552, hx1552_0⟩ := Kd.at_int (Kd.R_reads' HO_15.out).2.2 x17_1 p1552 q1552
           cases e1552
           replace p1552 := eq_true p1552
           replace q1552 := eq_true q1552
           have ⟨z21_0, z21_1, z21_2, z21_3, z21_4, z21_5, z21_6, z21_7, z21_8, v21_0, v21_1, v21_2, v21_3, v21_4, v21_5, v21_6, v21_7, v21_8⟩ := rz9 BK1544
           have p1553 : 0 ≤ ((rd t1549 x17_1) : Int) := oa
           have q1553 : (rd t1549 x17_1) < (l0_6.length : Int) := oa
           obtain ⟨ad1553, e1553, hx1553_0, hx1553_1, hx1553_2, hx1553_3, hx1553_4⟩ := at_T95 HR0_6.out (rd t1549 x17_1) p1553 q1553
           cases e1553
           replace hx1553_0 := hc HB hx1553_0
           replace hx1553_1 := hc HB hx1553_1
           replace hx1553_2 := hc HB hx1553_2
           replace hx1553_3 := hc HB hx1553_3
           replace hx1553_4 := hc HB hx1553_4
           replace p1553 := eq_true p1553
           replace q1553 := eq_true q1553
           go_wp2_with (first | ((with_reducible refine gcallee_ 80 rfl ?_); refine gl (some 27) Try.func80 #[.agg #[.int .i64 ((rd_T95 l0_6 (rd t1549 x17_1)).f0), .int .i64 ((rd_T95 l0_6 (rd t1549 x17_1)).f1), .int .i64 ((rd_T95 l0_6 (rd t1549 x17_1)).f2), .int .i64 ((rd_T95 l0_6 (rd t1549 x17_1)).f3), .int .i64 ((rd_T95 l0_6 (rd t1549 x17_1)).f4)], .int .i64 a1] ?_; (with_reducible refine (impl_plays.calls ((rd_T95 l0_6 (rd t1549 x17_1)).f0) ((rd_T95 l0_6 (rd t1549 x17_1)).f1) ((rd_T95 l0_6 (rd t1549 x17_1)).f2) ((rd_T95 l0_6 (rd t1549 x17_1)).f3) ((rd_T95 l0_6 (rd t1549 x17_1)).f4) a1 true _ A19.out).mono ?_); rintro e w22 ⟨rfl, hb⟩; refine ⟨_, rfl, ?_⟩; replace HO_15 := kr HO_15 hb; replace BK1544 := kb BK1544 hb; replace HB := hs_ HB hb))
           go_roundg k1
           case measure => have := HK1.out; omega
           case rel => exact ⟨(wrap64 (x5_1 + 2)), (wrap64 (x17_1 + 1)), e2_, e2_, H', ⟨by have := HK1.out; omega⟩, ⟨rr HO_15⟩, ⟨bk BK1544⟩, ⟨bb HB⟩⟩
          ·replace c20 := Bool.eq_false_iff.mpr c20
           subst c20
           rw [if_neg (show ¬ (false = true) by decide)] at H
           have H' := dk H
           clear H
           have p1552 : 0 ≤ (x17_1 : Int) := oa
           have q1552 : x17_1 < (t1549.length : Int) := oa
           obtain ⟨ad1552, e1552, hx1552_0⟩ := Kd.at_int (Kd.R_reads' HO_15.out).2.2 x17_1 p1552 q1552
           cases e1552
           replace p1552 := eq_true p1552
           replace q1552 := eq_true q1552
           have ⟨z23_0, z23_1, z23_2, z23_3, z23_4, z23_5, z23_6, z23_7, z23_8, v23_0, v23_1, v23_2, v23_3, v23_4, v23_5, v23_6, v23_7, v23_8⟩ := rz9 BK1544
           have p1553 : 0 ≤ ((rd t1549 x17_1) : Int) := oa
           have q1553 : (rd t1549 x17_1) < (l0_6.length : Int) := oa
           obtain ⟨ad1553, e1553, hx1553_0, hx1553_1, hx1553_2, hx1553_3, hx1553_4⟩ := at_T95 HR0_6.out (rd t1549 x17_1) p1553 q1553
           cases e1553
           replace hx1553_0 := hc HB hx1553_0
           replace hx1553_1 := hc HB hx1553_1
           replace hx1553_2 := hc HB hx1553_2
           replace hx1553_3 := hc HB hx1553_3
           replace hx1553_4 := hc HB hx1553_4
           replace p1553 := eq_true p1553
           replace q1553 := eq_true q1553
           go_wp2_with (first | ((with_reducible refine gcallee_ 80 rfl ?_); refine gl (some 27) Try.func80 #[.agg #[.int .i64 ((rd_T95 l0_6 (rd t1549 x17_1)).f0), .int .i64 ((rd_T95 l0_6 (rd t1549 x17_1)).f1), .int .i64 ((rd_T95 l0_6 (rd t1549 x17_1)).f2), .int .i64 ((rd_T95 l0_6 (rd t1549 x17_1)).f3), .int .i64 ((rd_T95 l0_6 (rd t1549 x17_1)).f4)], .int .i64 a1] ?_; (with_reducible refine (impl_plays.calls ((rd_T95 l0_6 (rd t1549 x17_1)).f0) ((rd_T95 l0_6 (rd t1549 x17_1)).f1) ((rd_T95 l0_6 (rd t1549 x17_1)).f2) ((rd_T95 l0_6 (rd t1549 x17_1)).f3) ((rd_T95 l0_6 (rd t1549 x17_1)).f4) a1 false _ A19.out).mono ?_); rintro e w24 ⟨rfl, hb⟩; refine ⟨_, rfl, ?_⟩; replace HO_15 := kr HO_15 hb; replace BK1544 := kb BK1544 hb; replace HB := hs_ HB hb))
           go_roundg k1
           case measure => have := HK1.out; omega
           case rel => exact ⟨(x5_1), (wrap64 (x17_1 + 1)), e2_, e2_, H', ⟨by have := HK1.out; omega⟩, ⟨rr HO_15⟩, ⟨bk BK1544⟩, ⟨bb HB⟩⟩
         ·rw [if_neg c18] at H
          exact absurd H (by simp)
        ·rw [if_neg c17] at H
         exact absurd H (by simp)
       ·rw [if_neg c16] at H
        exact absurd H (by simp)
      ·rw [if_neg c15] at H
       exact absurd H (by simp)
     ·rw [if_neg c14] at H
      have c14b0 := decide_eq_false c14
      clear c14
      obtain rfl := Option.some.inj H
      go_wp2
      go_ret
      exact ⟨ee, bb HB⟩
  ·rw [if_neg c5] at H
   exact absurd H (by simp)
 ·rw [if_neg c4] at H
  exact absurd H (by simp)
end Go.Proofs.Ythfefanapneocaa.Q
