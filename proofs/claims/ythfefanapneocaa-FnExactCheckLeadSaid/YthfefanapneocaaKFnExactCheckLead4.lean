/- A part of the proof of FnExactCheckLead. No condition. -/
import Derived.Test.YthfefanapneocaaKFnExactCheckLead1
import Derived.Test.YthfefanapneocaaProg
import Derived.Below
import Derived.Deep.Draws
import Derived.Deep.AppendLies
import Derived.Maps.AppendAt
import Derived.OwnWalk
import Derived.Laws.BytesArg
import Derived.Laws.MakeOwn
import Derived.Laws.OwnMore
import Derived.Deep.OwnRows
import Derived.Tactics
import Derived.Lib.ConvBytes
import Derived.Laws.Slices
import Derived.WalkKit
import Derived.KernelRfl
import Derived.RowKit3
import Derived.Deep.LoopGhost
import Derived.Deep.QuietTactic
import Derived.BigQuiet
import Derived.WideLaws
import Derived.Deep.DeepCutAuto
import Derived.Deep.CutBlock
import Derived.Deep.RegionHeld3
import Derived.Laws.Rows
import Derived.Lib.AppendStr
import Derived.ArgAppend
import Derived.Laws.IdiomCopy
import Derived.OrdersHeld
import Derived.Laws.BitsLemmas
import Derived.RowKit
import Derived.WalkSpells
import Derived.Shelf.Strings.Builder1
import Derived.Shelf.Strings.Builder2
import Derived.Shelf.Small.Bits
import Derived.Shelf.Strconv.Itoa0
import Derived.Ground.Names2Prog
import Derived.Shelf.Slices.Clone
import Derived.Shelf.Slices.SearchI
import Derived.Ground.SlgnProg
import Derived.Shelf.SlicesE.Clone
import Derived.Lib.AppendIntMem
import Derived.Laws.StructEq
import Derived.Test.YthfefanapneocaaKFnExactCheckLead2
import Derived.Test.YthfefanapneocaaKFnExactCheckLead3
section
namespace Go.Proofs.Ythfefanapneocaa.Q
open Go.RowKit Go.Proofs.YthfefanapneocaaW.PrintWords Go.Proofs.YthfefanapneocaaW.PrintLast Go.Proofs.YthfefanapneocaaW.PrintMore
attribute [local go_sem] max2_int min2_int max_two min_two max_three min_three max_four min_four
set_option linter.unusedVariables false
set_option linter.unusedSimpArgs false
set_option maxRecDepth 100000
set_option maxHeartbeats 8000000
mutual
def spec_CheckLead.l0 : Nat → Int → List Int → Int → List Int → Int → Int → List (S139) → Int → Int → Int → List Int → Bool → List (S95) → List Int → List Int → Bool → List Int → List Int → Option (Bool)
 | 0, _, _, _, _, _, _, _, _, _, _, _, _, _, _, _, _, _, _ => none
 | k + 1, x1, x7, x8, x27, x28, x29, x1459000, x1459001, x1459002, x1459003, x1459004, x1459005, x1459006, x1459007, x1459008, x1460000, x1460001, x1460002 => if x29 < x28 then (if 0 ≤ x29 then (if x29 < (x27.length : Int) then ((spec_l01In.f (rd x27 x29) 0 (wrap64 ((x1459000.length : Int) - 1))).bind fun t1466 => (if t1466 = true then (if (rd x27 x29) = x1 then (some false) else (if x29 > 0 then (if 0 ≤ (wrap64 (x29 - 1)) then (if (wrap64 (x29 - 1)) < (x1460002.length : Int) then (if (rd x27 x29) ≤ (rd x1460002 (wrap64 (x29 - 1))) then (some false) else (if 0 ≤ (rd x27 x29) then (if (rd x27 x29) < (x7.length : Int) then (spec_CheckLead.l0 k x1 x7 (wrap64 (x8 + (rd x7 (rd x27 x29)))) x27 x28 (wrap64 (x29 + 1)) x1459000 x1459001 x1459002 x1459003 x1459004 x1459005 x1459006 x1459007 x1459008 x1460000 x1460001 x1460002) else (none)) else (none))) else (none)) else (none)) else (if 0 ≤ (rd x27 x29) then (if (rd x27 x29) < (x7.length : Int) then (spec_CheckLead.l0 k x1 x7 (wrap64 (x8 + (rd x7 (rd x27 x29)))) x27 x28 (wrap64 (x29 + 1)) x1459000 x1459001 x1459002 x1459003 x1459004 x1459005 x1459006 x1459007 x1459008 x1460000 x1460001 x1460002) else (none)) else (none)))) else (some false))) else (none)) else (none)) else (spec_CheckLead.l1 k x1 x8 x1459006 (x1459006.length : Int) 0 x1459000 x1459001 x1459002 x1459003 x1459004 x1459005 x1459006 x1459007 x1459008 x1460000 x1460001 x1460002)
def spec_CheckLead.l1 : Nat → Int → Int → List (S95) → Int → Int → List (S139) → Int → Int → Int → List Int → Bool → List (S95) → List Int → List Int → Bool → List Int → List Int → Option (Bool)
 | 0, _, _, _, _, _, _, _, _, _, _, _, _, _, _, _, _, _ => none
 | k + 1, x1, x8, x68, x69, x70, x1459000, x1459001, x1459002, x1459003, x1459004, x1459005, x1459006, x1459007, x1459008, x1460000, x1460001, x1460002 => if x70 < x69 then (if 0 ≤ x70 then (if x70 < (x68.length : Int) then ((spec_IsOpen.f ((rd_T95 x68 x70).f0) ((rd_T95 x68 x70).f1) ((rd_T95 x68 x70).f2) ((rd_T95 x68 x70).f3) ((rd_T95 x68 x70).f4)).bind fun t1473 => (if t1473 = true then ((spec_l02Has.f k x1460002 ((rd_T95 x68 x70).f0)).bind fun t1474 => (if t1474 = true then ((spec_l02Has.f k x1460002 ((rd_T95 x68 x70).f1)).bind fun t1475 => (if t1475 = true then (spec_CheckLead.l1 k x1 (wrap64 (x8 + 2)) x68 x69 (wrap64 (x70 + 1)) x1459000 x1459001 x1459002 x1459003 x1459004 x1459005 x1459006 x1459007 x1459008 x1460000 x1460001 x1460002) else (spec_CheckLead.l1 k x1 x8 x68 x69 (wrap64 (x70 + 1)) x1459000 x1459001 x1459002 x1459003 x1459004 x1459005 x1459006 x1459007 x1459008 x1460000 x1460001 x1460002))) else (spec_CheckLead.l1 k x1 x8 x68 x69 (wrap64 (x70 + 1)) x1459000 x1459001 x1459002 x1459003 x1459004 x1459005 x1459006 x1459007 x1459008 x1460000 x1460001 x1460002))) else (spec_CheckLead.l1 k x1 x8 x68 x69 (wrap64 (x70 + 1)) x1459000 x1459001 x1459002 x1459003 x1459004 x1459005 x1459006 x1459007 x1459008 x1460000 x1460001 x1460002))) else (none)) else (none)) else (if (x1460002.length : Int) > 0 then ((spec_l18Best.f k x1459000 x1459001 x1459002 x1459003 x1459004 x1459005 x1459006 x1459007 x1459008 x1).bind fun t1470 => (some (decide (x8 > (wrap64 ((x1460002.length : Int) * t1470)))))) else (some false))
end
def spec_CheckLead.f (k : Nat) (l0_0 : List (S139)) (a0_1 : Int) (a0_2 : Int) (a0_3 : Int) (l0_4 : List Int) (a0_5 : Bool) (l0_6 : List (S95)) (l0_7 : List Int) (l0_8 : List Int) (a1 : Int) (a2_0 : Bool) (l2_1 : List Int) (l2_2 : List Int) : Option (Bool) := (spec_l18Ok.f k l0_0 a0_1 a0_2 a0_3 l0_4 a0_5 l0_6 l0_7 l0_8 a1).bind fun t1460 => (if t1460 = true then (if a2_0 = true then ((spec_l18Wins.f k l0_0 a0_1 a0_2 a0_3 l0_4 a0_5 l0_6 l0_7 l0_8 a1 l2_1).bind fun t1461 => (some t1461)) else ((spec_l18Points.f k l0_0 a0_1 a0_2 a0_3 l0_4 a0_5 l0_6 l0_7 l0_8).bind fun t1462 => (spec_CheckLead.l0 k a1 t1462 0 l2_2 (l2_2.length : Int) 0 l0_0 a0_1 a0_2 a0_3 l0_4 a0_5 l0_6 l0_7 l0_8 a2_0 l2_1 l2_2))) else (some false))
def spec_CheckLead.T20 : Bool × List (List Nat × List Nat) := (true, [([], []), ([0], [0]), ([1], [1]), ([2], [2]), ([3], [3]), ([4], [4]), ([4], [4]), ([6, 4], [4, 6]), ([7, 4], [4, 7]), ([4], [4]), ([4], [4]), ([9, 10, 4, 4], [4, 9, 10]), ([8, 11, 4], [4, 8, 11]), ([5, 12, 4], [4, 5, 12]), ([4, 13], [4, 13]), ([14, 11, 0, 1, 2, 3, 4, 5, 6, 7, 8, 9, 10, 11, 12, 13, 14], [14])])
def spec_CheckLead.B20 : List Nat := [0, 1, 3, 7, 15, 31, 31, 95, 223, 31, 31, 1567, 4063, 8191, 16383, 32767]
theorem spec_CheckLead.tab20 : rtab .any (opsOf Try.f32 20) = spec_CheckLead.T20 := by kernel_rfl
theorem spec_CheckLead.bits20 : waitsOk spec_CheckLead.T20.2 spec_CheckLead.B20 = true := by kernel_rfl
theorem spec_CheckLead.calls (k : Nat) (A0_0 : Option Addr) (c0_0 : Nat) (l0_0 : List (S139)) (a0_1 : Int) (a0_2 : Int) (a0_3 : Int) (A0_4 : Option Addr) (c0_4 : Nat) (l0_4 : List Int) (a0_5 : Bool) (A0_6 : Option Addr) (c0_6 : Nat) (l0_6 : List (S95)) (A0_7 : Option Addr) (c0_7 : Nat) (l0_7 : List Int) (A0_8 : Option Addr) (c0_8 : Nat) (l0_8 : List Int) (a1 : Int) (a2_0 : Bool) (A2_1 : Option Addr) (c2_1 : Nat) (l2_1 : List Int) (A2_2 : Option Addr) (c2_2 : Nat) (l2_2 : List Int) (r : Bool) (w : World) (hr0_0 : Kd.C k139 w A0_0 l0_0.length l0_0) (hc0_0 : l0_0.length ≤ c0_0) (hr0_4 : Kd.C (Kd.int .i64) w A0_4 l0_4.length l0_4) (hc0_4 : l0_4.length ≤ c0_4) (hr0_6 : Kd.C k95 w A0_6 l0_6.length l0_6) (hc0_6 : l0_6.length ≤ c0_6) (hr0_7 : Kd.C (Kd.int .i64) w A0_7 l0_7.length l0_7) (hc0_7 : l0_7.length ≤ c0_7) (hr0_8 : Kd.C (Kd.int .i64) w A0_8 l0_8.length l0_8) (hc0_8 : l0_8.length ≤ c0_8) (hr2_1 : Kd.C (Kd.int .i64) w A2_1 l2_1.length l2_1) (hc2_1 : l2_1.length ≤ c2_1) (hr2_2 : Kd.C (Kd.int .i64) w A2_2 l2_2.length l2_2) (hc2_2 : l2_2.length ≤ c2_2) (h : spec_CheckLead.f k l0_0 a0_1 a0_2 a0_3 l0_4 a0_5 l0_6 l0_7 l0_8 a1 a2_0 l2_1 l2_2 = some r) :
  Calls Try.prog 32 #[.agg #[.slice A0_0 l0_0.length c0_0, .int .i64 a0_1, .int .i64 a0_2, .int .i64 a0_3, .slice A0_4 l0_4.length c0_4, .bool a0_5, .slice A0_6 l0_6.length c0_6, .slice A0_7 l0_7.length c0_7, .slice A0_8 l0_8.length c0_8], .int .i64 a1, .agg #[.bool a2_0, .slice A2_1 l2_1.length c2_1, .slice A2_2 l2_2.length c2_2]] w fun e w' => e = .returned (.bool r) ∧ Below w.heap.size w w' := by
 have hu36 := Try.underlying36
 have hu62 := Try.underlying62
 have hu95 := Try.underlying95
 have HR0_0 := dk hr0_0
 have HC0_0 := dk hc0_0
 clear hr0_0 hc0_0
 have HR0_4 := dk hr0_4
 have HC0_4 := dk hc0_4
 clear hr0_4 hc0_4
 have HR0_6 := dk hr0_6
 have HC0_6 := dk hc0_6
 clear hr0_6 hc0_6
 have HR0_7 := dk hr0_7
 have HC0_7 := dk hc0_7
 clear hr0_7 hc0_7
 have HR0_8 := dk hr0_8
 have HC0_8 := dk hc0_8
 clear hr0_8 hc0_8
 have HR2_1 := dk hr2_1
 have HC2_1 := dk hc2_1
 clear hr2_1 hc2_1
 have HR2_2 := dk hr2_2
 have HC2_2 := dk hc2_2
 clear hr2_2 hc2_2
 have HB := hb0 w
 have H : ((spec_l18Ok.f k l0_0 a0_1 a0_2 a0_3 l0_4 a0_5 l0_6 l0_7 l0_8 a1).bind fun t1460 => (if t1460 = true then (if a2_0 = true then ((spec_l18Wins.f k l0_0 a0_1 a0_2 a0_3 l0_4 a0_5 l0_6 l0_7 l0_8 a1 l2_1).bind fun t1461 => (some t1461)) else ((spec_l18Points.f k l0_0 a0_1 a0_2 a0_3 l0_4 a0_5 l0_6 l0_7 l0_8).bind fun t1462 => (spec_CheckLead.l0 k a1 t1462 0 l2_2 (l2_2.length : Int) 0 l0_0 a0_1 a0_2 a0_3 l0_4 a0_5 l0_6 l0_7 l0_8 a2_0 l2_1 l2_2))) else (some false))) = some r := h
 clear h
 replace H := Option.bind_eq_some_iff.mp H
 obtain ⟨t1460, A40, H⟩ := H
 try dsimp only at H
 have A4 := dk A40
 clear A40
 by_cases c5 : t1460 = true
 ·subst c5
  rw [if_pos rfl] at H
  by_cases c6 : a2_0 = true
  ·subst c6
   rw [if_pos rfl] at H
   replace H := Option.bind_eq_some_iff.mp H
   obtain ⟨t1461, A70, H⟩ := H
   try dsimp only at H
   have A7 := dk A70
   clear A70
   obtain rfl := Option.some.inj H
   go_enter Try.func32, Try.ntmps32
   go_wp2_with (first | ((with_reducible refine gdst_ 3 rfl ?_); (try (refine gate_guard (by rfl) ?_; dsimp only)); refine bx (N := 3) (cs := #[.slice A0_0 l0_0.length c0_0, .int .i64 a0_1, .int .i64 a0_2, .int .i64 a0_3, .slice A0_4 l0_4.length c0_4, .bool a0_5, .slice A0_6 l0_6.length c0_6, .slice A0_7 l0_7.length c0_7, .slice A0_8 l0_8.length c0_8]) (t := 36) ?_; intro gb1458 hg w8 hbox hb; have BK1458 := dk (hbox); have GW1458 := gs hg HB; have GE1458 := gs hg HB; replace HB := hs_ HB hb; clear hb hbox hg) | ((with_reducible refine gdst_ 5 rfl ?_); (try (refine gate_guard (by rfl) ?_; dsimp only)); refine bx (N := 5) (cs := #[.bool true, .slice A2_1 l2_1.length c2_1, .slice A2_2 l2_2.length c2_2]) (t := 62) ?_; intro gb1459 hg w9 hbox hb; have BK1459 := dk (hbox); have GW1459 := gs hg HB; have GE1459 := gs hg HB; replace HB := hs_ HB hb; have NB1458_1459 := gn hg BK1458; have NB1459_1458 := gm hg BK1458; replace BK1458 := kb BK1458 hb; clear hb hbox hg; have hnb10 := NB1458_1459.out; have hnc10 := NB1459_1458.out; have ⟨z11_0, z11_1, z11_2, z11_3, z11_4, z11_5, z11_6, z11_7, z11_8, v11_0, v11_1, v11_2, v11_3, v11_4, v11_5, v11_6, v11_7, v11_8⟩ := rz9 BK1458) | ((with_reducible refine gcallee_ 84 rfl ?_); refine gl (some 15) Try.func84 #[.agg #[.slice A0_0 l0_0.length c0_0, .int .i64 a0_1, .int .i64 a0_2, .int .i64 a0_3, .slice A0_4 l0_4.length c0_4, .bool a0_5, .slice A0_6 l0_6.length c0_6, .slice A0_7 l0_7.length c0_7, .slice A0_8 l0_8.length c0_8], .int .i64 a1] ?_; (with_reducible refine (spec_l18Ok.calls k _ _ l0_0 a0_1 a0_2 a0_3 _ _ l0_4 a0_5 _ _ l0_6 _ _ l0_7 _ _ l0_8 a1 true _ ?side1 ?side2 ?side3 ?side4 ?side5 ?side6 ?side7 ?side8 ?side9 ?side10 A4.out).mono ?_); (case side1 => exact cc HR0_0 HB); (case side2 => exact HC0_0.out); (case side3 => exact cc HR0_4 HB); (case side4 => exact HC0_4.out); (case side5 => exact cc HR0_6 HB); (case side6 => exact HC0_6.out); (case side7 => exact cc HR0_7 HB); (case side8 => exact HC0_7.out); (case side9 => exact cc HR0_8 HB); (case side10 => exact HC0_8.out); rintro e w12 ⟨rfl, hb⟩; refine ⟨_, rfl, ?_⟩; replace BK1458 := kb BK1458 hb; replace BK1459 := kb BK1459 hb; replace HB := hs_ HB hb; have ⟨z13_0, z13_1, z13_2, v13_0, v13_1, v13_2⟩ := rz3 BK1459; have ⟨z14_0, z14_1, z14_2, z14_3, z14_4, z14_5, z14_6, z14_7, z14_8, v14_0, v14_1, v14_2, v14_3, v14_4, v14_5, v14_6, v14_7, v14_8⟩ := rz9 BK1458) | ((with_reducible refine gcallee_ 85 rfl ?_); refine gl (some 23) Try.func85 #[.agg #[.slice A0_0 l0_0.length c0_0, .int .i64 a0_1, .int .i64 a0_2, .int .i64 a0_3, .slice A0_4 l0_4.length c0_4, .bool a0_5, .slice A0_6 l0_6.length c0_6, .slice A0_7 l0_7.length c0_7, .slice A0_8 l0_8.length c0_8], .int .i64 a1, .slice A2_1 l2_1.length c2_1] ?_; (with_reducible refine (spec_l18Wins.calls k _ _ l0_0 a0_1 a0_2 a0_3 _ _ l0_4 a0_5 _ _ l0_6 _ _ l0_7 _ _ l0_8 a1 _ _ l2_1 t1461 _ ?side1 ?side2 ?side3 ?side4 ?side5 ?side6 ?side7 ?side8 ?side9 ?side10 ?side11 ?side12 A7.out).mono ?_); (case side1 => exact cc HR0_0 HB); (case side2 => exact HC0_0.out); (case side3 => exact cc HR0_4 HB); (case side4 => exact HC0_4.out); (case side5 => exact cc HR0_6 HB); (case side6 => exact HC0_6.out); (case side7 => exact cc HR0_7 HB); (case side8 => exact HC0_7.out); (case side9 => exact cc HR0_8 HB); (case side10 => exact HC0_8.out); (case side11 => exact cc HR2_1 HB); (case side12 => exact HC2_1.out); rintro e w15 ⟨rfl, hb⟩; refine ⟨_, rfl, ?_⟩; replace BK1458 := kb BK1458 hb; replace BK1459 := kb BK1459 hb; replace HB := hs_ HB hb))
   go_ret
   exact ⟨ee, bb HB⟩
  ·replace c6 := Bool.eq_false_iff.mpr c6
   subst c6
   rw [if_neg (show ¬ (false = true) by decide)] at H
   replace H := Option.bind_eq_some_iff.mp H
   obtain ⟨t1462, A160, H⟩ := H
   try dsimp only at H
   have A16 := dk A160
   clear A160
   have H' := dk H
   clear H
   go_enter Try.func32, Try.ntmps32
   go_wp2_with (first | ((with_reducible refine gdst_ 3 rfl ?_); (try (refine gate_guard (by rfl) ?_; dsimp only)); refine bx (N := 3) (cs := #[.slice A0_0 l0_0.length c0_0, .int .i64 a0_1, .int .i64 a0_2, .int .i64 a0_3, .slice A0_4 l0_4.length c0_4, .bool a0_5, .slice A0_6 l0_6.length c0_6, .slice A0_7 l0_7.length c0_7, .slice A0_8 l0_8.length c0_8]) (t := 36) ?_; intro gb1458 hg w17 hbox hb; have BK1458 := dk (hbox); have GW1458 := gs hg HB; have GE1458 := gs hg HB; replace HB := hs_ HB hb; clear hb hbox hg) | ((with_reducible refine gdst_ 5 rfl ?_); (try (refine gate_guard (by rfl) ?_; dsimp only)); refine bx (N := 5) (cs := #[.bool false, .slice A2_1 l2_1.length c2_1, .slice A2_2 l2_2.length c2_2]) (t := 62) ?_; intro gb1459 hg w18 hbox hb; have BK1459 := dk (hbox); have GW1459 := gs hg HB; have GE1459 := gs hg HB; replace HB := hs_ HB hb; have NB1458_1459 := gn hg BK1458; have NB1459_1458 := gm hg BK1458; replace BK1458 := kb BK1458 hb; clear hb hbox hg; have hnb19 := NB1458_1459.out; have hnc19 := NB1459_1458.out; have ⟨z20_0, z20_1, z20_2, z20_3, z20_4, z20_5, z20_6, z20_7, z20_8, v20_0, v20_1, v20_2, v20_3, v20_4, v20_5, v20_6, v20_7, v20_8⟩ := rz9 BK1458) | ((with_reducible refine gcallee_ 84 rfl ?_); refine gl (some 15) Try.func84 #[.agg #[.slice A0_0 l0_0.length c0_0, .int .i64 a0_1, .int .i64 a0_2, .int .i64 a0_3, .slice A0_4 l0_4.length c0_4, .bool a0_5, .slice A0_6 l0_6.length c0_6, .slice A0_7 l0_7.length c0_7, .slice A0_8 l0_8.length c0_8], .int .i64 a1] ?_; (with_reducible refine (spec_l18Ok.calls k _ _ l0_0 a0_1 a0_2 a0_3 _ _ l0_4 a0_5 _ _ l0_6 _ _ l0_7 _ _ l0_8 a1 true _ ?side1 ?side2 ?side3 ?side4 ?side5 ?side6 ?side7 ?side8 ?side9 ?side10 A4.out).mono ?_); (case side1 => exact cc HR0_0 HB); (case side2 => exact HC0_0.out); (case side3 => exact cc HR0_4 HB); (case side4 => exact HC0_4.out); (case side5 => exact cc HR0_6 HB); (case side6 => exact HC0_6.out); (case side7 => exact cc HR0_7 HB); (case side8 => exact HC0_7.out); (case side9 => exact cc HR0_8 HB); (case side10 => exact HC0_8.out); rintro e w21 ⟨rfl, hb⟩; refine ⟨_, rfl, ?_⟩; replace BK1458 := kb BK1458 hb; replace BK1459 := kb BK1459 hb; replace HB := hs_ HB hb; have ⟨z22_0, z22_1, z22_2, v22_0, v22_1, v22_2⟩ := rz3 BK1459; have ⟨z23_0, z23_1, z23_2, z23_3, z23_4, z23_5, z23_6, z23_7, z23_8, v23_0, v23_1, v23_2, v23_3, v23_4, v23_5, v23_6, v23_7, v23_8⟩ := rz9 BK1458) | ((with_reducible refine gcallee_ 86 rfl ?_); refine gl (some 25) Try.func86 #[.agg #[.slice A0_0 l0_0.length c0_0, .int .i64 a0_1, .int .i64 a0_2, .int .i64 a0_3, .slice A0_4 l0_4.length c0_4, .bool a0_5, .slice A0_6 l0_6.length c0_6, .slice A0_7 l0_7.length c0_7, .slice A0_8 l0_8.length c0_8]] ?_; (with_reducible refine (spec_l18Points.calls k _ _ l0_0 a0_1 a0_2 a0_3 _ _ l0_4 a0_5 _ _ l0_6 _ _ l0_7 _ _ l0_8 t1462 _ ?side1 ?side2 ?side3 ?side4 ?side5 ?side6 ?side7 ?side8 ?side9 ?side10 A16.out).mono ?_); (case side1 => exact cc HR0_0 HB); (case side2 => exact HC0_0.out); (case side3 => exact cc HR0_4 HB); (case side4 => exact HC0_4.out); (case side5 => exact cc HR0_6 HB); (case side6 => exact HC0_6.out); (case side7 => exact cc HR0_7 HB); (case side8 => exact HC0_7.out); (case side9 => exact cc HR0_8 HB); (case side10 => exact HC0_8.out); rintro e w24 ⟨v1463, rfl, ho0, hb⟩; refine ⟨_, rfl, ?_⟩; have HO1464 := kl ho0 HB; replace BK1458 := kb BK1458 hb; replace BK1459 := kb BK1459 hb; replace HB := hs_ HB hb; have ⟨z25_0, z25_1, z25_2, v25_0, v25_1, v25_2⟩ := rz3 BK1459))
   go_loopg [8, 29] k (fun kq v8 v29 w' => ∃ (x8_1 : Int) (x29_1 : Int), v8 = .int .i64 x8_1 ∧ v29 = .int .i64 x29_1 ∧ Aside0 (spec_CheckLead.l0 kq a1 t1462 x8_1 l2_2 (l2_2.length : Int) x29_1 l0_0 a0_1 a0_2 a0_3 l0_4 a0_5 l0_6 l0_7 l0_8 false l2_1 l2_2 = some r) ∧ Aside0 (kq ≤ k) ∧ Aside0 (Kd.R (Kd.int .i64) 3 w' w.heap.size (fun _ => True) v1463 t1462) ∧ Aside0 (w'.heap[gb1458]? = some (.cells #[(.slice A0_0 l0_0.length c0_0), .int .i64 a0_1, .int .i64 a0_2, .int .i64 a0_3, (.slice A0_4 l0_4.length c0_4), .bool a0_5, (.slice A0_6 l0_6.length c0_6), (.slice A0_7 l0_7.length c0_7), (.slice A0_8 l0_8.length c0_8)] 36 (0, 0))) ∧ Aside0 (w'.heap[gb1459]? = some (.cells #[.bool false, (.slice A2_1 l2_1.length c2_1), (.slice A2_2 l2_2.length c2_2)] 62 (0, 0))) ∧ Aside0 (Below w.heap.size w w'))
   case atStart => exact ⟨(0), (0), e2_, e2_, H', ⟨Nat.le_refl _⟩, ⟨rr HO1464⟩, ⟨bk BK1458⟩, ⟨bk BK1459⟩, ⟨bb HB⟩⟩
   case round =>
    clear H'
    obtain ⟨x8_1, x29_1, rfl, rfl, HA, HK1, HO_7, BK1458, BK1459, HB⟩ := hrel
    cases gk with
    | zero => exact absurd HA.out (by simp [spec_CheckLead.l0])
    | succ k1 =>
     have H := HA.out
     clear HA
     simp only [spec_CheckLead.l0] at H
     by_cases c26 : x29_1 < (l2_2.length : Int)
     ·rw [if_pos c26] at H
      have c26b0 := decide_eq_true c26
      clear c26
      by_cases c27 : 0 ≤ x29_1
      ·rw [if_pos c27] at H
       have c27b0 := decide_eq_true c27
       clear c27
       by_cases c28 : x29_1 < (l2_2.length : Int)
       ·rw [if_pos c28] at H
        have c28b0 := decide_eq_true c28
        clear c28
        replace H := Option.bind_eq_some_iff.mp H
        obtain ⟨t1466, A290, H⟩ := H
        try dsimp only at H
        have A29 := dk A290
        clear A290
        by_cases c30 : t1466 = true
        ·subst c30
         rw [if_pos rfl] at H
         by_cases c31 : (rd l2_2 x29_1) = a1
         ·rw [if_pos c31] at H
          have c31b0 := beq_iff_eq.mpr c31
          have c31b1 := bne_eq_false_iff_eq.mpr c31
          clear c31
          obtain rfl := Option.some.inj H
          have p1465 : 0 ≤ (x29_1 : Int) := oa
          have q1465 : x29_1 < (l2_2.length : Int) := oa
          obtain ⟨ad1465, e1465, hx1465_0⟩ := Kd.at_int HR2_2.out x29_1 p1465 q1465
          cases e1465
          replace hx1465_0 := hc HB hx1465_0
          replace p1465 := eq_true p1465
          replace q1465 := eq_true q1465
          have hnb32 := NB1458_1459.out
          have hnc32 := NB1459_1458.out
          have ⟨z33_0, z33_1, z33_2, z33_3, z33_4, z33_5, z33_6, z33_7, z33_8, v33_0, v33_1, v33_2, v33_3, v33_4, v33_5, v33_6, v33_7, v33_8⟩ := rz9 BK1458
          go_wp2_with (first | ((with_reducible refine gcallee_ 76 rfl ?_); refine gl (some 39) Try.func76 #[.int .i64 (rd l2_2 x29_1), .int .i64 0, .int .i64 (wrap64 ((l0_0.length : Int) - 1))] ?_; (with_reducible refine (spec_l01In.calls (rd l2_2 x29_1) 0 (wrap64 ((l0_0.length : Int) - 1)) true _ A29.out).mono ?_); rintro e w' ⟨rfl, ⟨nd, rfl⟩⟩; refine ⟨_, rfl, ?_⟩))
          go_ret
          exact ⟨ee, bb HB⟩
         ·rw [if_neg c31] at H
          have c31b0 := beq_eq_false_iff_ne.mpr c31
          have c31b1 := bne_iff_ne.mpr c31
          by_cases c34 : x29_1 > 0
          ·rw [if_pos c34] at H
           have c34b0 := decide_eq_true c34
           clear c34
           obtain ⟨ji35, hji35⟩ : ∃ j_ : Int, (wrap64 (x29_1 - 1)) = j_ := ⟨_, rfl⟩
           replace H : (if 0 ≤ (ji35) then (if (ji35) < (l2_2.length : Int) then (if (rd l2_2 x29_1) ≤ (rd l2_2 (ji35)) then (some false) else (if 0 ≤ (rd l2_2 x29_1) then (if (rd l2_2 x29_1) < (t1462.length : Int) then (spec_CheckLead.l0 k1 a1 t1462 (wrap64 (x8_1 + (rd t1462 (rd l2_2 x29_1)))) l2_2 (l2_2.length : Int) (wrap64 (x29_1 + 1)) l0_0 a0_1 a0_2 a0_3 l0_4 a0_5 l0_6 l0_7 l0_8 false l2_1 l2_2) else (none)) else (none))) else (none)) else (none)) = some r := by first | (rw [hji35] at H; exact H) | (simp only [hji35] at H ⊢; exact H)
           (try rw [hji35] at A29)
           have hji35w : (IntKind.i64.wrap (x29_1 - 1)) = ji35 := (i64_w _).trans hji35
           by_cases c36 : 0 ≤ (ji35)
           ·rw [if_pos c36] at H
            have c36b0 := decide_eq_true c36
            clear c36
            by_cases c37 : (ji35) < (l2_2.length : Int)
            ·rw [if_pos c37] at H
             have c37b0 := decide_eq_true c37
             clear c37
             by_cases c38 : (rd l2_2 x29_1) ≤ (rd l2_2 (ji35))
             ·rw [if_pos c38] at H
              have c38b0 := decide_eq_true c38
              clear c38
              obtain rfl := Option.some.inj H
              have p1465 : 0 ≤ (x29_1 : Int) := oa
              have q1465 : x29_1 < (l2_2.length : Int) := oa
              obtain ⟨ad1465, e1465, hx1465_0⟩ := Kd.at_int HR2_2.out x29_1 p1465 q1465
              cases e1465
              replace hx1465_0 := hc HB hx1465_0
              replace p1465 := eq_true p1465
              replace q1465 := eq_true q1465
              have hnb39 := NB1458_1459.out
              have hnc39 := NB1459_1458.out
              have ⟨z40_0, z40_1, z40_2, z40_3, z40_4, z40_5, z40_6, z40_7, z40_8, v40_0, v40_1, v40_2, v40_3, v40_4, v40_5, v40_6, v40_7, v40_8⟩ := rz9 BK1458
              go_wp2_with (first | ((with_reducible refine gcallee_ 76 rfl ?_); refine gl (some 39) Try.func76 #[.int .i64 (rd l2_2 x29_1), .int .i64 0, .int .i64 (wrap64 ((l0_0.length : Int) - 1))] ?_; (with_reducible refine (spec_l01In.calls (rd l2_2 x29_1) 0 (wrap64 ((l0_0.length : Int) - 1)) true _ A29.out).mono ?_); rintro e w' ⟨rfl, ⟨nd, rfl⟩⟩; refine ⟨_, rfl, ?_⟩; have ⟨z41_0, z41_1, z41_2, v41_0, v41_1, v41_2⟩ := rz3 BK1459; have p1467 : 0 ≤ ((ji35) : Int) := oa; have q1467 : (ji35) < (l2_2.length : Int) := oa; obtain ⟨ad1467, e1467, hx1467_0⟩ := Kd.at_int HR2_2.out (ji35) p1467 q1467; obtain rfl : ad1465 = ad1467 := (by injection e1467); replace hx1467_0 := hc HB hx1467_0; replace p1467 := eq_true p1467; replace q1467 := eq_true q1467))
              go_ret
              exact ⟨by first | rfl | (simp [errW_none, errW_some] <;> rfl) | (simp only [← hji35]; first | rfl | (simp [errW_none, errW_some] <;> rfl)) | (simp [*, errW_none, errW_some] <;> rfl), bb HB⟩
             ·rw [if_neg c38] at H
              have c38b0 := decide_eq_false c38
              clear c38
              by_cases c42 : 0 ≤ (rd l2_2 x29_1)
              ·rw [if_pos c42] at H
               have c42b0 := decide_eq_true c42
               clear c42
               by_cases c43 : (rd l2_2 x29_1) < (t1462.length : Int)
               ·rw [if_pos c43] at H
                have c43b0 := decide_eq_true c43
                clear c43
                have H' := dk H
                clear H
                have p1465 : 0 ≤ (x29_1 : Int) := oa
                have q1465 : x29_1 < (l2_2.length : Int) := oa
                obtain ⟨ad1465, e1465, hx1465_0⟩ := Kd.at_int HR2_2.out x29_1 p1465 q1465
                cases e1465
                replace hx1465_0 := hc HB hx1465_0
                replace p1465 := eq_true p1465
                replace q1465 := eq_true q1465
                have hnb44 := NB1458_1459.out
                have hnc44 := NB1459_1458.out
                have ⟨z45_0, z45_1, z45_2, z45_3, z45_4, z45_5, z45_6, z45_7, z45_8, v45_0, v45_1, v45_2, v45_3, v45_4, v45_5, v45_6, v45_7, v45_8⟩ := rz9 BK1458
                go_wp2_with (first | ((with_reducible refine gcallee_ 76 rfl ?_); refine gl (some 39) Try.func76 #[.int .i64 (rd l2_2 x29_1), .int .i64 0, .int .i64 (wrap64 ((l0_0.length : Int) - 1))] ?_; (with_reducible refine (spec_l01In.calls (rd l2_2 x29_1) 0 (wrap64 ((l0_0.length : Int) - 1)) true _ A29.out).mono ?_); rintro e w' ⟨rfl, ⟨nd, rfl⟩⟩; refine ⟨_, rfl, ?_⟩; have ⟨z46_0, z46_1, z46_2, v46_0, v46_1, v46_2⟩ := rz3 BK1459; have p1467 : 0 ≤ ((ji35) : Int) := oa; have q1467 : (ji35) < (l2_2.length : Int) := oa; obtain ⟨ad1467, e1467, hx1467_0⟩ := Kd.at_int HR2_2.out (ji35) p1467 q1467; obtain rfl : ad1465 = ad1467 := (by injection e1467); replace hx1467_0 := hc HB hx1467_0; replace p1467 := eq_true p1467; replace q1467 := eq_true q1467; obtain ⟨Ao47, co47, eo47⟩ := Kd.R_slice HO_7.out; subst eo47; have p1468 : 0 ≤ ((rd l2_2 x29_1) : Int) := oa; have q1468 : (rd l2_2 x29_1) < (t1462.length : Int) := oa; obtain ⟨ad1468, e1468, hx1468_0⟩ := Kd.at_int (Kd.R_reads' HO_7.out).2.2 (rd l2_2 x29_1) p1468 q1468; cases e1468; replace p1468 := eq_true p1468; replace q1468 := eq_true q1468))
                go_roundg k1
                case measure => have := HK1.out; omega
                case rel => exact ⟨(wrap64 (x8_1 + (rd t1462 (rd l2_2 x29_1)))), (wrap64 (x29_1 + 1)), e2_, e2_, H', ⟨by have := HK1.out; omega⟩, ⟨rr HO_7⟩, ⟨bk BK1458⟩, ⟨bk BK1459⟩, ⟨bb HB⟩⟩
               ·rw [if_neg c43] at H
                exact absurd H (by simp)
              ·rw [if_neg c42] at H
               exact absurd H (by simp)
            ·rw [if_neg c37] at H
             exact absurd H (by simp)
           ·rw [if_neg c36] at H
            exact absurd H (by simp)
          ·rw [if_neg c34] at H
           have c34b0 := decide_eq_false c34
           clear c34
           by_cases c48 : 0 ≤ (rd l2_2 x29_1)
           ·rw [if_pos c48] at H
            have c48b0 := decide_eq_true c48
            clear c48
            by_cases c49 : (rd l2_2 x29_1) < (t1462.length : Int)
            ·rw [if_pos c49] at H
             have c49b0 := decide_eq_true c49
             clear c49
             have H' := dk H
             clear H
             have p1465 : 0 ≤ (x29_1 : Int) := oa
             have q1465 : x29_1 < (l2_2.length : Int) := oa
             obtain ⟨ad1465, e1465, hx1465_0⟩ := Kd.at_int HR2_2.out x29_1 p1465 q1465
             cases e1465
             replace hx1465_0 := hc HB hx1465_0
             replace p1465 := eq_true p1465
             replace q1465 := eq_true q1465
             have hnb50 := NB1458_1459.out
             have hnc50 := NB1459_1458.out
             have ⟨z51_0, z51_1, z51_2, z51_3, z51_4, z51_5, z51_6, z51_7, z51_8, v51_0, v51_1, v51_2, v51_3, v51_4, v51_5, v51_6, v51_7, v51_8⟩ := rz9 BK1458
             go_wp2_with (first | ((with_reducible refine gcallee_ 76 rfl ?_); refine gl (some 39) Try.func76 #[.int .i64 (rd l2_2 x29_1), .int .i64 0, .int .i64 (wrap64 ((l0_0.length : Int) - 1))] ?_; (with_reducible refine (spec_l01In.calls (rd l2_2 x29_1) 0 (wrap64 ((l0_0.length : Int) - 1)) true _ A29.out).mono ?_); rintro e w' ⟨rfl, ⟨nd, rfl⟩⟩; refine ⟨_, rfl, ?_⟩; obtain ⟨Ao52, co52, eo52⟩ := Kd.R_slice HO_7.out; subst eo52; have p1469 : 0 ≤ ((rd l2_2 x29_1) : Int) := oa; have q1469 : (rd l2_2 x29_1) < (t1462.length : Int) := oa; obtain ⟨ad1469, e1469, hx1469_0⟩ := Kd.at_int (Kd.R_reads' HO_7.out).2.2 (rd l2_2 x29_1) p1469 q1469; cases e1469; replace p1469 := eq_true p1469; replace q1469 := eq_true q1469))
             go_roundg k1
             case measure => have := HK1.out; omega
             case rel => exact ⟨(wrap64 (x8_1 + (rd t1462 (rd l2_2 x29_1)))), (wrap64 (x29_1 + 1)), e2_, e2_, H', ⟨by have := HK1.out; omega⟩, ⟨rr HO_7⟩, ⟨bk BK1458⟩, ⟨bk BK1459⟩, ⟨bb HB⟩⟩
            ·rw [if_neg c49] at H
             exact absurd H (by simp)
           ·rw [if_neg c48] at H
            exact absurd H (by simp)
        ·replace c30 := Bool.eq_false_iff.mpr c30
         subst c30
         rw [if_neg (show ¬ (false = true) by decide)] at H
         obtain rfl := Option.some.inj H
         have p1465 : 0 ≤ (x29_1 : Int) := oa
         have q1465 : x29_1 < (l2_2.length : Int) := oa
         obtain ⟨ad1465, e1465, hx1465_0⟩ := Kd.at_int HR2_2.out x29_1 p1465 q1465
         cases e1465
         replace hx1465_0 := hc HB hx1465_0
         replace p1465 := eq_true p1465
         replace q1465 := eq_true q1465
         have hnb53 := NB1458_1459.out
         have hnc53 := NB1459_1458.out
         have ⟨z54_0, z54_1, z54_2, z54_3, z54_4, z54_5, z54_6, z54_7, z54_8, v54_0, v54_1, v54_2, v54_3, v54_4, v54_5, v54_6, v54_7, v54_8⟩ := rz9 BK1458
         go_wp2_with (first | ((with_reducible refine gcallee_ 76 rfl ?_); refine gl (some 39) Try.func76 #[.int .i64 (rd l2_2 x29_1), .int .i64 0, .int .i64 (wrap64 ((l0_0.length : Int) - 1))] ?_; (with_reducible refine (spec_l01In.calls (rd l2_2 x29_1) 0 (wrap64 ((l0_0.length : Int) - 1)) false _ A29.out).mono ?_); rintro e w' ⟨rfl, ⟨nd, rfl⟩⟩; refine ⟨_, rfl, ?_⟩))
         go_ret
         exact ⟨ee, bb HB⟩
       ·rw [if_neg c28] at H
        exact absurd H (by simp)
      ·rw [if_neg c27] at H
       exact absurd H (by simp)
     ·rw [if_neg c26] at H
      have c26b0 := decide_eq_false c26
      clear c26
      have H' := dk H
      clear H
      have hnb55 := NB1458_1459.out
      have hnc55 := NB1459_1458.out
      have ⟨z56_0, z56_1, z56_2, z56_3, z56_4, z56_5, z56_6, z56_7, z56_8, v56_0, v56_1, v56_2, v56_3, v56_4, v56_5, v56_6, v56_7, v56_8⟩ := rz9 BK1458
      go_wp2
      go_loopg [8, 70] k1 (fun kq v8 v70 w' => ∃ (x8_2 : Int) (x70_2 : Int), v8 = .int .i64 x8_2 ∧ v70 = .int .i64 x70_2 ∧ Aside0 (spec_CheckLead.l1 kq a1 x8_2 l0_6 (l0_6.length : Int) x70_2 l0_0 a0_1 a0_2 a0_3 l0_4 a0_5 l0_6 l0_7 l0_8 false l2_1 l2_2 = some r) ∧ Aside0 (kq ≤ k1) ∧ Aside0 (w'.heap[gb1458]? = some (.cells #[(.slice A0_0 l0_0.length c0_0), .int .i64 a0_1, .int .i64 a0_2, .int .i64 a0_3, (.slice A0_4 l0_4.length c0_4), .bool a0_5, (.slice A0_6 l0_6.length c0_6), (.slice A0_7 l0_7.length c0_7), (.slice A0_8 l0_8.length c0_8)] 36 (0, 0))) ∧ Aside0 (w'.heap[gb1459]? = some (.cells #[.bool false, (.slice A2_1 l2_1.length c2_1), (.slice A2_2 l2_2.length c2_2)] 62 (0, 0))) ∧ Aside0 (Below w.heap.size w w'))
      case atStart => exact ⟨(x8_1), (0), e2_, e2_, H', ⟨Nat.le_refl _⟩, ⟨bk BK1458⟩, ⟨bk BK1459⟩, ⟨bb HB⟩⟩
      case round =>
       clear H'
       obtain ⟨x8_2, x70_2, rfl, rfl, HA, HK2, BK1458, BK1459, HB⟩ := hrel
       cases gk with
       | zero => exact absurd HA.out (by simp [spec_CheckLead.l1])
       | succ k2 =>
        have H := HA.out
        clear HA
        simp only [spec_CheckLead.l1] at H
        by_cases c57 : x70_2 < (l0_6.length : Int)
        ·rw [if_pos c57] at H
         have c57b0 := decide_eq_true c57
         clear c57
         by_cases c58 : 0 ≤ x70_2
         ·rw [if_pos c58] at H
          have c58b0 := decide_eq_true c58
          clear c58
          by_cases c59 : x70_2 < (l0_6.length : Int)
          ·rw [if_pos c59] at H
           have c59b0 := decide_eq_true c59
           clear c59
           replace H := Option.bind_eq_some_iff.mp H
           obtain ⟨t1473, A600, H⟩ := H
           try dsimp only at H
           have A60 := dk A600
           clear A600
           by_cases c61 : t1473 = true
           ·subst c61
            rw [if_pos rfl] at H
            replace H := Option.bind_eq_some_iff.mp H
            obtain ⟨t1474, A620, H⟩ := H
            try dsimp only at H
            have A62 := dk A620
            clear A620
            by_cases c63 : t1474 = true
            ·subst c63
             rw [if_pos rfl] at H
             replace H := Option.bind_eq_some_iff.mp H
             obtain ⟨t1475, A640, H⟩ := H
             try dsimp only at H
             have A64 := dk A640
             clear A640
             by_cases c65 : t1475 = true
             ·subst c65
              rw [if_pos rfl] at H
              have H' := dk H
              clear H
              have p1471 : 0 ≤ (x70_2 : Int) := oa
              have q1471 : x70_2 < (l0_6.length : Int) := oa
              obtain ⟨ad1471, e1471, hx1471_0, hx1471_1, hx1471_2, hx1471_3, hx1471_4⟩ := at_T95 HR0_6.out x70_2 p1471 q1471
              cases e1471
              replace hx1471_0 := hc HB hx1471_0
              replace hx1471_1 := hc HB hx1471_1
              replace hx1471_2 := hc HB hx1471_2
              replace hx1471_3 := hc HB hx1471_3
              replace hx1471_4 := hc HB hx1471_4
              replace p1471 := eq_true p1471
              replace q1471 := eq_true q1471
              go_wp2_with (first | ((with_reducible refine gdst_ 12 rfl ?_); (try (refine gate_guard (by rfl) ?_; dsimp only)); refine bx (N := 12) (cs := #[.int .i64 0, .int .i64 0, .int .i64 0, .int .i64 0, .int .i64 0]) (t := 95) ?_; intro gb1472 hg w66 hbox hb; have BK1472 := dk (hbox); have GW1472 := gs hg HB; have GE1472 := gs hg HB; replace HB := hs_ HB hb; have NB1458_1472 := gn hg BK1458; have NB1472_1458 := gm hg BK1458; replace BK1458 := kb BK1458 hb; have NB1459_1472 := gn hg BK1459; have NB1472_1459 := gm hg BK1459; replace BK1459 := kb BK1459 hb; clear hb hbox hg; have hnb67 := NB1472_1458.out; have hnc67 := NB1458_1472.out; have hnb68 := NB1472_1459.out; have hnc68 := NB1459_1472.out; have ⟨z69_0, z69_1, z69_2, z69_3, z69_4, v69_0, v69_1, v69_2, v69_3, v69_4⟩ := rz5 BK1472) | ((with_reducible refine gcallee_ 77 rfl ?_); refine gl (some 75) Try.func77 #[.agg #[.int .i64 ((rd_T95 l0_6 x70_2).f0), .int .i64 ((rd_T95 l0_6 x70_2).f1), .int .i64 ((rd_T95 l0_6 x70_2).f2), .int .i64 ((rd_T95 l0_6 x70_2).f3), .int .i64 ((rd_T95 l0_6 x70_2).f4)]] ?_; (with_reducible refine (spec_IsOpen.calls ((rd_T95 l0_6 x70_2).f0) ((rd_T95 l0_6 x70_2).f1) ((rd_T95 l0_6 x70_2).f2) ((rd_T95 l0_6 x70_2).f3) ((rd_T95 l0_6 x70_2).f4) true _ A60.out).mono ?_); rintro e w70 ⟨rfl, hb⟩; refine ⟨_, rfl, ?_⟩; replace BK1458 := dk (blk_below (bf NB1458_1472.out BK1458) hb); replace BK1459 := dk (blk_below (bf NB1459_1472.out BK1459) hb); replace BK1472 := dk (blk_below (g := gb1472) (o := .cells #[.int .i64 ((rd_T95 l0_6 x70_2).f0), .int .i64 ((rd_T95 l0_6 x70_2).f1), .int .i64 ((rd_T95 l0_6 x70_2).f2), .int .i64 ((rd_T95 l0_6 x70_2).f3), .int .i64 ((rd_T95 l0_6 x70_2).f4)] 95 (0, 0)) (bp BK1472) hb); replace HB := hs_ HB hb; have hnb71 := NB1459_1458.out; have hnc71 := NB1458_1459.out; have ⟨z72_0, z72_1, z72_2, v72_0, v72_1, v72_2⟩ := rz3 BK1459; have ⟨z73_0, z73_1, z73_2, z73_3, z73_4, v73_0, v73_1, v73_2, v73_3, v73_4⟩ := rz5 BK1472) | (go_at_call 87; (with_reducible refine (spec_l02Has.calls k2 _ _ l2_2 ((rd_T95 l0_6 x70_2).f0) true _ ?side1 ?side2 A62.out).mono ?_); (case side1 => exact cc HR2_2 HB); (case side2 => exact HC2_2.out); rintro e w' ⟨rfl, ⟨nd, rfl⟩⟩) | (go_at_call 87; (with_reducible refine (spec_l02Has.calls k2 _ _ l2_2 ((rd_T95 l0_6 x70_2).f1) true _ ?side1 ?side2 A64.out).mono ?_); (case side1 => repeat (first | exact (Kd.C_below HR2_2.out (bb HB)) | (with_reducible refine Kd.C_alloc ?_ _) | (with_reducible refine Kd.C_drewN ?_ _) | (with_reducible refine Kd.C_drew ?_))); (case side2 => exact HC2_2.out); rintro e w' ⟨rfl, ⟨nd, rfl⟩⟩))
              go_roundg k2
              case measure => have := HK1.out; have := HK2.out; omega
              case rel => exact ⟨(wrap64 (x8_2 + 2)), (wrap64 (x70_2 + 1)), e2_, e2_, H', ⟨by have := HK1.out; have := HK2.out; omega⟩, ⟨bk BK1458⟩, ⟨bk BK1459⟩, ⟨bb HB⟩⟩
             ·replace c65 := Bool.eq_false_iff.mpr c65
              subst c65
              rw [if_neg (show ¬ (false = true) by decide)] at H
              have H' := dk H
              clear H
              have p1471 : 0 ≤ (x70_2 : Int) := oa
              have q1471 : x70_2 < (l0_6.length : Int) := oa
              obtain ⟨ad1471, e1471, hx1471_0, hx1471_1, hx1471_2, hx1471_3, hx1471_4⟩ := at_T95 HR0_6.out x70_2 p1471 q1471
              cases e1471
              replace hx1471_0 := hc HB hx1471_0
              replace hx1471_1 := hc HB hx1471_1
              replace hx1471_2 := hc HB hx1471_2
              replace hx1471_3 := hc HB hx1471_3
              replace hx1471_4 := hc HB hx1471_4
              replace p1471 := eq_true p1471
              replace q1471 := eq_true q1471
              go_wp2_with (first | ((with_reducible refine gdst_ 12 rfl ?_); (try (refine gate_guard (by rfl) ?_; dsimp only)); refine bx (N := 12) (cs := #[.int .i64 0, .int .i64 0, .int .i64 0, .int .i64 0, .int .i64 0]) (t := 95) ?_; intro gb1472 hg w74 hbox hb; have BK1472 := dk (hbox); have GW1472 := gs hg HB; have GE1472 := gs hg HB; replace HB := hs_ HB hb; have NB1458_1472 := gn hg BK1458; have NB1472_1458 := gm hg BK1458; replace BK1458 := kb BK1458 hb; have NB1459_1472 := gn hg BK1459; have NB1472_1459 := gm hg BK1459; replace BK1459 := kb BK1459 hb; clear hb hbox hg; have hnb75 := NB1472_1458.out; have hnc75 := NB1458_1472.out; have hnb76 := NB1472_1459.out; have hnc76 := NB1459_1472.out; have ⟨z77_0, z77_1, z77_2, z77_3, z77_4, v77_0, v77_1, v77_2, v77_3, v77_4⟩ := rz5 BK1472) | ((with_reducible refine gcallee_ 77 rfl ?_); refine gl (some 75) Try.func77 #[.agg #[.int .i64 ((rd_T95 l0_6 x70_2).f0), .int .i64 ((rd_T95 l0_6 x70_2).f1), .int .i64 ((rd_T95 l0_6 x70_2).f2), .int .i64 ((rd_T95 l0_6 x70_2).f3), .int .i64 ((rd_T95 l0_6 x70_2).f4)]] ?_; (with_reducible refine (spec_IsOpen.calls ((rd_T95 l0_6 x70_2).f0) ((rd_T95 l0_6 x70_2).f1) ((rd_T95 l0_6 x70_2).f2) ((rd_T95 l0_6 x70_2).f3) ((rd_T95 l0_6 x70_2).f4) true _ A60.out).mono ?_); rintro e w78 ⟨rfl, hb⟩; refine ⟨_, rfl, ?_⟩; replace BK1458 := dk (blk_below (bf NB1458_1472.out BK1458) hb); replace BK1459 := dk (blk_below (bf NB1459_1472.out BK1459) hb); replace BK1472 := dk (blk_below (g := gb1472) (o := .cells #[.int .i64 ((rd_T95 l0_6 x70_2).f0), .int .i64 ((rd_T95 l0_6 x70_2).f1), .int .i64 ((rd_T95 l0_6 x70_2).f2), .int .i64 ((rd_T95 l0_6 x70_2).f3), .int .i64 ((rd_T95 l0_6 x70_2).f4)] 95 (0, 0)) (bp BK1472) hb); replace HB := hs_ HB hb; have hnb79 := NB1459_1458.out; have hnc79 := NB1458_1459.out; have ⟨z80_0, z80_1, z80_2, v80_0, v80_1, v80_2⟩ := rz3 BK1459; have ⟨z81_0, z81_1, z81_2, z81_3, z81_4, v81_0, v81_1, v81_2, v81_3, v81_4⟩ := rz5 BK1472) | (go_at_call 87; (with_reducible refine (spec_l02Has.calls k2 _ _ l2_2 ((rd_T95 l0_6 x70_2).f0) true _ ?side1 ?side2 A62.out).mono ?_); (case side1 => exact cc HR2_2 HB); (case side2 => exact HC2_2.out); rintro e w' ⟨rfl, ⟨nd, rfl⟩⟩) | (go_at_call 87; (with_reducible refine (spec_l02Has.calls k2 _ _ l2_2 ((rd_T95 l0_6 x70_2).f1) false _ ?side1 ?side2 A64.out).mono ?_); (case side1 => repeat (first | exact (Kd.C_below HR2_2.out (bb HB)) | (with_reducible refine Kd.C_alloc ?_ _) | (with_reducible refine Kd.C_drewN ?_ _) | (with_reducible refine Kd.C_drew ?_))); (case side2 => exact HC2_2.out); rintro e w' ⟨rfl, ⟨nd, rfl⟩⟩))
              go_roundg k2
              case measure => have := HK1.out; have := HK2.out; omega
              case rel => exact ⟨(x8_2), (wrap64 (x70_2 + 1)), e2_, e2_, H', ⟨by have := HK1.out; have := HK2.out; omega⟩, ⟨bk BK1458⟩, ⟨bk BK1459⟩, ⟨bb HB⟩⟩
            ·replace c63 := Bool.eq_false_iff.mpr c63
             subst c63
             rw [if_neg (show ¬ (false = true) by decide)] at H
             have H' := dk H
             clear H
             have p1471 : 0 ≤ (x70_2 : Int) := oa
             have q1471 : x70_2 < (l0_6.length : Int) := oa
             obtain ⟨ad1471, e1471, hx1471_0, hx1471_1, hx1471_2, hx1471_3, hx1471_4⟩ := at_T95 HR0_6.out x70_2 p1471 q1471
             cases e1471
             replace hx1471_0 := hc HB hx1471_0
             replace hx1471_1 := hc HB hx1471_1
             replace hx1471_2 := hc HB hx1471_2
             replace hx1471_3 := hc HB hx1471_3
             replace hx1471_4 := hc HB hx1471_4
             replace p1471 := eq_true p1471
             replace q1471 := eq_true q1471
             go_wp2_with (first | ((with_reducible refine gdst_ 12 rfl ?_); (try (refine gate_guard (by rfl) ?_; dsimp only)); refine bx (N := 12) (cs := #[.int .i64 0, .int .i64 0, .int .i64 0, .int .i64 0, .int .i64 0]) (t := 95) ?_; intro gb1472 hg w82 hbox hb; have BK1472 := dk (hbox); have GW1472 := gs hg HB; have GE1472 := gs hg HB; replace HB := hs_ HB hb; have NB1458_1472 := gn hg BK1458; have NB1472_1458 := gm hg BK1458; replace BK1458 := kb BK1458 hb; have NB1459_1472 := gn hg BK1459; have NB1472_1459 := gm hg BK1459; replace BK1459 := kb BK1459 hb; clear hb hbox hg; have hnb83 := NB1472_1458.out; have hnc83 := NB1458_1472.out; have hnb84 := NB1472_1459.out; have hnc84 := NB1459_1472.out; have ⟨z85_0, z85_1, z85_2, z85_3, z85_4, v85_0, v85_1, v85_2, v85_3, v85_4⟩ := rz5 BK1472) | ((with_reducible refine gcallee_ 77 rfl ?_); refine gl (some 75) Try.func77 #[.agg #[.int .i64 ((rd_T95 l0_6 x70_2).f0), .int .i64 ((rd_T95 l0_6 x70_2).f1), .int .i64 ((rd_T95 l0_6 x70_2).f2), .int .i64 ((rd_T95 l0_6 x70_2).f3), .int .i64 ((rd_T95 l0_6 x70_2).f4)]] ?_; (with_reducible refine (spec_IsOpen.calls ((rd_T95 l0_6 x70_2).f0) ((rd_T95 l0_6 x70_2).f1) ((rd_T95 l0_6 x70_2).f2) ((rd_T95 l0_6 x70_2).f3) ((rd_T95 l0_6 x70_2).f4) true _ A60.out).mono ?_); rintro e w86 ⟨rfl, hb⟩; refine ⟨_, rfl, ?_⟩; replace BK1458 := dk (blk_below (bf NB1458_1472.out BK1458) hb); replace BK1459 := dk (blk_below (bf NB1459_1472.out BK1459) hb); replace BK1472 := dk (blk_below (g := gb1472) (o := .cells #[.int .i64 ((rd_T95 l0_6 x70_2).f0), .int .i64 ((rd_T95 l0_6 x70_2).f1), .int .i64 ((rd_T95 l0_6 x70_2).f2), .int .i64 ((rd_T95 l0_6 x70_2).f3), .int .i64 ((rd_T95 l0_6 x70_2).f4)] 95 (0, 0)) (bp BK1472) hb); replace HB := hs_ HB hb; have hnb87 := NB1459_1458.out; have hnc87 := NB1458_1459.out; have ⟨z88_0, z88_1, z88_2, v88_0, v88_1, v88_2⟩ := rz3 BK1459; have ⟨z89_0, z89_1, z89_2, z89_3, z89_4, v89_0, v89_1, v89_2, v89_3, v89_4⟩ := rz5 BK1472) | (go_at_call 87; (with_reducible refine (spec_l02Has.calls k2 _ _ l2_2 ((rd_T95 l0_6 x70_2).f0) false _ ?side1 ?side2 A62.out).mono ?_); (case side1 => exact cc HR2_2 HB); (case side2 => exact HC2_2.out); rintro e w' ⟨rfl, ⟨nd, rfl⟩⟩))
             go_roundg k2
             case measure => have := HK1.out; have := HK2.out; omega
             case rel => exact ⟨(x8_2), (wrap64 (x70_2 + 1)), e2_, e2_, H', ⟨by have := HK1.out; have := HK2.out; omega⟩, ⟨bk BK1458⟩, ⟨bk BK1459⟩, ⟨bb HB⟩⟩
           ·replace c61 := Bool.eq_false_iff.mpr c61
            subst c61
            rw [if_neg (show ¬ (false = true) by decide)] at H
            have H' := dk H
            clear H
            have p1471 : 0 ≤ (x70_2 : Int) := oa
            have q1471 : x70_2 < (l0_6.length : Int) := oa
            obtain ⟨ad1471, e1471, hx1471_0, hx1471_1, hx1471_2, hx1471_3, hx1471_4⟩ := at_T95 HR0_6.out x70_2 p1471 q1471
            cases e1471
            replace hx1471_0 := hc HB hx1471_0
            replace hx1471_1 := hc HB hx1471_1
            replace hx1471_2 := hc HB hx1471_2
            replace hx1471_3 := hc HB hx1471_3
            replace hx1471_4 := hc HB hx1471_4
            replace p1471 := eq_true p1471
            replace q1471 := eq_true q1471
            go_wp2_with (first | ((with_reducible refine gdst_ 12 rfl ?_); (try (refine gate_guard (by rfl) ?_; dsimp only)); refine bx (N := 12) (cs := #[.int .i64 0, .int .i64 0, .int .i64 0, .int .i64 0, .int .i64 0]) (t := 95) ?_; intro gb1472 hg w90 hbox hb; have BK1472 := dk (hbox); have GW1472 := gs hg HB; have GE1472 := gs hg HB; replace HB := hs_ HB hb; have NB1458_1472 := gn hg BK1458; have NB1472_1458 := gm hg BK1458; replace BK1458 := kb BK1458 hb; have NB1459_1472 := gn hg BK1459; have NB1472_1459 := gm hg BK1459; replace BK1459 := kb BK1459 hb; clear hb hbox hg; have hnb91 := NB1472_1458.out; have hnc91 := NB1458_1472.out; have hnb92 := NB1472_1459.out; have hnc92 := NB1459_1472.out; have ⟨z93_0, z93_1, z93_2, z93_3, z93_4, v93_0, v93_1, v93_2, v93_3, v93_4⟩ := rz5 BK1472) | ((with_reducible refine gcallee_ 77 rfl ?_); refine gl (some 75) Try.func77 #[.agg #[.int .i64 ((rd_T95 l0_6 x70_2).f0), .int .i64 ((rd_T95 l0_6 x70_2).f1), .int .i64 ((rd_T95 l0_6 x70_2).f2), .int .i64 ((rd_T95 l0_6 x70_2).f3), .int .i64 ((rd_T95 l0_6 x70_2).f4)]] ?_; (with_reducible refine (spec_IsOpen.calls ((rd_T95 l0_6 x70_2).f0) ((rd_T95 l0_6 x70_2).f1) ((rd_T95 l0_6 x70_2).f2) ((rd_T95 l0_6 x70_2).f3) ((rd_T95 l0_6 x70_2).f4) false _ A60.out).mono ?_); rintro e w94 ⟨rfl, hb⟩; refine ⟨_, rfl, ?_⟩; replace BK1458 := dk (blk_below (bf NB1458_1472.out BK1458) hb); replace BK1459 := dk (blk_below (bf NB1459_1472.out BK1459) hb); replace BK1472 := dk (blk_below (g := gb1472) (o := .cells #[.int .i64 ((rd_T95 l0_6 x70_2).f0), .int .i64 ((rd_T95 l0_6 x70_2).f1), .int .i64 ((rd_T95 l0_6 x70_2).f2), .int .i64 ((rd_T95 l0_6 x70_2).f3), .int .i64 ((rd_T95 l0_6 x70_2).f4)] 95 (0, 0)) (bp BK1472) hb); replace HB := hs_ HB hb))
            go_roundg k2
            case measure => have := HK1.out; have := HK2.out; omega
            case rel => exact ⟨(x8_2), (wrap64 (x70_2 + 1)), e2_, e2_, H', ⟨by have := HK1.out; have := HK2.out; omega⟩, ⟨bk BK1458⟩, ⟨bk BK1459⟩, ⟨bb HB⟩⟩
          ·rw [if_neg c59] at H
           exact absurd H (by simp)
         ·rw [if_neg c58] at H
          exact absurd H (by simp)
        ·rw [if_neg c57] at H
         have c57b0 := decide_eq_false c57
         clear c57
         by_cases c95 : (l2_2.length : Int) > 0
         ·rw [if_pos c95] at H
          have c95b0 := decide_eq_true c95
          have c95b1 : decide (0 < l2_2.length) = true := decide_eq_true (by omega)
          clear c95
          replace H := Option.bind_eq_some_iff.mp H
          obtain ⟨t1470, A960, H⟩ := H
          try dsimp only at H
          have A96 := dk A960
          clear A960
          obtain rfl := Option.some.inj H
          try go_wp2
          replace BK1458 := dk (blk_drew BK1458.out)
          replace BK1459 := dk (blk_drew BK1459.out)
          replace HB := dk (below_drew1 HB.out)
          refine start_ (n := 16) (S := fun w' => hd3 w' gb1459 (.bool false) (.slice A2_1 l2_1.length c2_1) (.slice A2_2 l2_2.length c2_2) ∧ hd9 w' gb1458 (.slice A0_0 l0_0.length c0_0) (.int .i64 a0_1) (.int .i64 a0_2) (.int .i64 a0_3) (.slice A0_4 l0_4.length c0_4) (.bool a0_5) (.slice A0_6 l0_6.length c0_6) (.slice A0_7 l0_7.length c0_7) (.slice A0_8 l0_8.length c0_8)) (ds := []) #[false, false, false, false, false, false, false, false, false, false, false, false, false, false, false, false] (by kernel_rfl) rfl rfl ⟨rb3 BK1459, rb9 BK1458⟩ (fun hHeld => ?_); refine with_tabW spec_CheckLead.tab20 spec_CheckLead.bits20 (fun HT_ HW_ => ?_)
          generalize wr.drew = w97 at BK1458 BK1459 HB hHeld ⊢
          refine pz_ 0 93 ?_
          refine tk_ 1 94 ?_
          refine pz_ 2 95 ?_
          refine pz_ 3 96 ?_
          refine pz_ 4 97 ?_
          refine pz_ 5 98 ?_
          refine pz_ 6 99 ?_
          refine pz_ 10 103 ?_
          refine tk_ 7 100 ?_
          refine pz_ 8 101 ?_
          refine tk_ 9 102 ?_
          refine on_ 11 (some 104) (fun K hK => ?_)
          refine ga_ Try.func88 #[.agg #[.slice A0_0 l0_0.length c0_0, .int .i64 a0_1, .int .i64 a0_2, .int .i64 a0_3, .slice A0_4 l0_4.length c0_4, .bool a0_5, .slice A0_6 l0_6.length c0_6, .slice A0_7 l0_7.length c0_7, .slice A0_8 l0_8.length c0_8], .int .i64 a1] ?_
          with_reducible refine (spec_l18Best.calls k2 _ _ l0_0 a0_1 a0_2 a0_3 _ _ l0_4 a0_5 _ _ l0_6 _ _ l0_7 _ _ l0_8 a1 t1470 _ ?side1 ?side2 ?side3 ?side4 ?side5 ?side6 ?side7 ?side8 ?side9 ?side10 A96.out).mono ?_
          (case side1 => exact cc HR0_0 HB)
          (case side2 => exact HC0_0.out)
          (case side3 => exact cc HR0_4 HB)
          (case side4 => exact HC0_4.out)
          (case side5 => exact cc HR0_6 HB)
          (case side6 => exact HC0_6.out)
          (case side7 => exact cc HR0_7 HB)
          (case side8 => exact HC0_7.out)
          (case side9 => exact cc HR0_8 HB)
          (case side10 => exact HC0_8.out)
          rintro e w98 ⟨rfl, hb⟩
          refine ⟨_, rfl, ?_⟩
          replace BK1458 := kb BK1458 hb
          replace BK1459 := kb BK1459 hb
          replace HB := hs_ HB hb
          refine hK.out _ _ ⟨rb3 BK1459, rb9 BK1458⟩ (fun hHeld => ?_)
          clear hK K
          refine no_ ?_
          refine pz_ 12 105 ?_
          refine pz_ 13 106 ?_
          refine pz_ 14 107 ?_
          refine pz_ 15 6 ?_
          refine done_ (done_of HT_.out (by kernel_rfl)) ?_
          try go_wp2
          go_ret
          exact ⟨ee, bb HB⟩
         ·rw [if_neg c95] at H
          have c95b0 := decide_eq_false c95
          have c95b1 : decide (0 < l2_2.length) = false := decide_eq_false (by omega)
          clear c95
          obtain rfl := Option.some.inj H
          try go_wp2
          replace BK1458 := dk (blk_drew BK1458.out)
          replace BK1459 := dk (blk_drew BK1459.out)
          replace HB := dk (below_drew1 HB.out)
          refine start_ (n := 16) (S := fun w' => hd3 w' gb1459 (.bool false) (.slice A2_1 l2_1.length c2_1) (.slice A2_2 l2_2.length c2_2)) (ds := []) #[false, false, false, false, false, false, false, false, false, false, false, false, false, false, false, false] (by kernel_rfl) rfl rfl (rb3 BK1459) (fun hHeld => ?_); refine with_tabW spec_CheckLead.tab20 spec_CheckLead.bits20 (fun HT_ HW_ => ?_)
          generalize wr.drew = w99 at BK1458 BK1459 HB hHeld ⊢
          refine pz_ 0 93 ?_
          refine tk_ 1 94 ?_
          refine pz_ 2 95 ?_
          refine pz_ 3 96 ?_
          refine pz_ 4 97 ?_
          refine pu_ 5 98 ?_
          refine pu_ 6 99 ?_
          refine pu_ 7 100 ?_
          refine pu_ 8 101 ?_
          refine pu_ 9 102 ?_
          refine pu_ 10 103 ?_
          refine pu_ 11 104 ?_
          refine pu_ 12 105 ?_
          refine pu_ 13 106 ?_
          refine pz_ 14 107 ?_
          refine pz_ 15 6 ?_
          refine done_ (done_of HT_.out (by kernel_rfl)) ?_
          try go_wp2
          go_ret
          exact ⟨ee, bb HB⟩
 ·replace c5 := Bool.eq_false_iff.mpr c5
  subst c5
  rw [if_neg (show ¬ (false = true) by decide)] at H
  obtain rfl := Option.some.inj H
  go_enter Try.func32, Try.ntmps32
  go_wp2_with (first | ((with_reducible refine gdst_ 3 rfl ?_); (try (refine gate_guard (by rfl) ?_; dsimp only)); refine bx (N := 3) (cs := #[.slice A0_0 l0_0.length c0_0, .int .i64 a0_1, .int .i64 a0_2, .int .i64 a0_3, .slice A0_4 l0_4.length c0_4, .bool a0_5, .slice A0_6 l0_6.length c0_6, .slice A0_7 l0_7.length c0_7, .slice A0_8 l0_8.length c0_8]) (t := 36) ?_; intro gb1458 hg w100 hbox hb; have BK1458 := dk (hbox); have GW1458 := gs hg HB; have GE1458 := gs hg HB; replace HB := hs_ HB hb; clear hb hbox hg) | ((with_reducible refine gdst_ 5 rfl ?_); (try (refine gate_guard (by rfl) ?_; dsimp only)); refine bx (N := 5) (cs := #[.bool a2_0, .slice A2_1 l2_1.length c2_1, .slice A2_2 l2_2.length c2_2]) (t := 62) ?_; intro gb1459 hg w101 hbox hb; have BK1459 := dk (hbox); have GW1459 := gs hg HB; have GE1459 := gs hg HB; replace HB := hs_ HB hb; have NB1458_1459 := gn hg BK1458; have NB1459_1458 := gm hg BK1458; replace BK1458 := kb BK1458 hb; clear hb hbox hg; have hnb102 := NB1458_1459.out; have hnc102 := NB1459_1458.out; have ⟨z103_0, z103_1, z103_2, z103_3, z103_4, z103_5, z103_6, z103_7, z103_8, v103_0, v103_1, v103_2, v103_3, v103_4, v103_5, v103_6, v103_7, v103_8⟩ := rz9 BK1458) | ((with_reducible refine gcallee_ 84 rfl ?_); refine gl (some 15) Try.func84 #[.agg #[.slice A0_0 l0_0.length c0_0, .int .i64 a0_1, .int .i64 a0_2, .int .i64 a0_3, .slice A0_4 l0_4.length c0_4, .bool a0_5, .slice A0_6 l0_6.length c0_6, .slice A0_7 l0_7.length c0_7, .slice A0_8 l0_8.length c0_8], .int .i64 a1] ?_; (with_reducible refine (spec_l18Ok.calls k _ _ l0_0 a0_1 a0_2 a0_3 _ _ l0_4 a0_5 _ _ l0_6 _ _ l0_7 _ _ l0_8 a1 false _ ?side1 ?side2 ?side3 ?side4 ?side5 ?side6 ?side7 ?side8 ?side9 ?side10 A4.out).mono ?_); (case side1 => exact cc HR0_0 HB); (case side2 => exact HC0_0.out); (case side3 => exact cc HR0_4 HB); (case side4 => exact HC0_4.out); (case side5 => exact cc HR0_6 HB); (case side6 => exact HC0_6.out); (case side7 => exact cc HR0_7 HB); (case side8 => exact HC0_7.out); (case side9 => exact cc HR0_8 HB); (case side10 => exact HC0_8.out); rintro e w104 ⟨rfl, hb⟩; refine ⟨_, rfl, ?_⟩; replace BK1458 := kb BK1458 hb; replace BK1459 := kb BK1459 hb; replace HB := hs_ HB hb))
  go_ret
  exact ⟨ee, bb HB⟩
end Go.Proofs.Ythfefanapneocaa.Q
end
namespace Go.Proofs.Ythfefanapneocaa.Q
open Go.RowKit Go.Proofs.YthfefanapneocaaW.PrintWords Go.Proofs.YthfefanapneocaaW.PrintLast Go.Proofs.YthfefanapneocaaW.PrintMore
attribute [local go_sem] max2_int min2_int max_two min_two max_three min_three max_four min_four
set_option linter.unusedVariables false
set_option linter.unusedSimpArgs false
set_option maxRecDepth 100000
set_option maxHeartbeats 8000000
def laws_toVerdict.f (k : Nat) (a0_0 : Bool) (l0_1 : List Int) (l0_2 : List Int) : Option (Bool × List Int × List Int) := (laws_toIntS.f k l0_1).bind fun t1479 => ((laws_toIntS.f k l0_2).bind fun t1482 => (some (a0_0, t1479, t1482)))
theorem laws_toVerdict.calls (k : Nat) (a0_0 : Bool) (A0_1 : Option Addr) (c0_1 : Nat) (l0_1 : List Int) (A0_2 : Option Addr) (c0_2 : Nat) (l0_2 : List Int) (r1 : Bool) (r2 : List Int) (r3 : List Int) (w : World) (hr0_1 : Kd.C (Kd.int .i64) w A0_1 l0_1.length l0_1) (hc0_1 : l0_1.length ≤ c0_1) (hr0_2 : Kd.C (Kd.int .i64) w A0_2 l0_2.length l0_2) (hc0_2 : l0_2.length ≤ c0_2) (h : laws_toVerdict.f k a0_0 l0_1 l0_2 = some (r1, r2, r3)) :
  Calls Try.prog 33 #[.agg #[.bool a0_0, .slice A0_1 l0_1.length c0_1, .slice A0_2 l0_2.length c0_2]] w fun e w' => ∃ v1_ v2_ : Value, e = .returned (.agg #[.bool r1, v1_, v2_]) ∧ Kd.R (Kd.int .i64) 3 w' w.heap.size (fun k_ => some k_ ≠ (v2_ : Value).ownBlock) v1_ r2 ∧ Kd.R (Kd.int .i64) 3 w' w.heap.size (fun k_ => some k_ ≠ (v1_ : Value).ownBlock) v2_ r3 ∧ Below w.heap.size w w' := by
 have hu59 := Try.underlying59
 have hu62 := Try.underlying62
 have HR0_1 := dk hr0_1
 have HC0_1 := dk hc0_1
 clear hr0_1 hc0_1
 have HR0_2 := dk hr0_2
 have HC0_2 := dk hc0_2
 clear hr0_2 hc0_2
 have HB := hb0 w
 have H : ((laws_toIntS.f k l0_1).bind fun t1479 => ((laws_toIntS.f k l0_2).bind fun t1482 => (some (a0_0, t1479, t1482)))) = some (r1, r2, r3) := h
 clear h
 replace H := Option.bind_eq_some_iff.mp H
 obtain ⟨t1479, A20, H⟩ := H
 replace H : ((laws_toIntS.f k l0_2).bind fun t1482 => (some (a0_0, t1479, t1482))) = some (r1, r2, r3) := H
 have A2 := dk A20
 clear A20
 replace H := Option.bind_eq_some_iff.mp H
 obtain ⟨t1482, A30, H⟩ := H
 replace H : (some (a0_0, t1479, t1482)) = some (r1, r2, r3) := H
 have A3 := dk A30
 clear A30
 simp only [Option.some.injEq, Prod.mk.injEq] at H
 obtain ⟨rfl, rfl, rfl⟩ := H
 go_enter Try.func33, Try.ntmps33
 go_wp2_with (first | ((with_reducible refine gdst_ 1 rfl ?_); refine bx (N := 1) (cs := #[.bool a0_0, .slice A0_1 l0_1.length c0_1, .slice A0_2 l0_2.length c0_2]) (t := 59) ?_; intro gb1476 hg w4 hbox hb; have BK1476 := dk (hbox); have GW1476 := gs hg HB; have GE1476 := gs hg HB; replace HB := hs_ HB hb; clear hb hbox hg) | ((with_reducible refine gdst_ 2 rfl ?_); refine bx (N := 2) (cs := #[.bool false, .slice none 0 0, .slice none 0 0]) (t := 62) ?_; intro gb1477 hg w5 hbox hb; have BK1477 := dk (hbox); have GW1477 := gs hg HB; have GE1477 := gs hg HB; replace HB := hs_ HB hb; have NB1476_1477 := gn hg BK1476; have NB1477_1476 := gm hg BK1476; replace BK1476 := kb BK1476 hb; clear hb hbox hg) | ((with_reducible refine gdst_ 3 rfl ?_); refine bx (N := 3) (cs := #[.bool false, .slice none 0 0, .slice none 0 0]) (t := 62) ?_; intro gb1478 hg w6 hbox hb; have BK1478 := dk (hbox); have GW1478 := gs hg HB; have GE1478 := gs hg HB; replace HB := hs_ HB hb; have NB1476_1478 := gn hg BK1476; have NB1478_1476 := gm hg BK1476; replace BK1476 := kb BK1476 hb; have NB1477_1478 := gn hg BK1477; have NB1478_1477 := gm hg BK1477; replace BK1477 := kb BK1477 hb; clear hb hbox hg; have hnb7 := NB1476_1477.out; have hnc7 := NB1477_1476.out; have hnb8 := NB1476_1478.out; have hnc8 := NB1478_1476.out; have ⟨z9_0, z9_1, z9_2, v9_0, v9_1, v9_2⟩ := rz3 BK1476; have hnb10 := NB1478_1477.out; have hnc10 := NB1477_1478.out; have ⟨z11_0, z11_1, z11_2, v11_0, v11_1, v11_2⟩ := rz3 BK1478) | ((with_reducible refine gcallee_ 39 rfl ?_); refine gl (some 9) Try.func39 #[.slice A0_1 l0_1.length c0_1] ?_; (with_reducible refine (laws_toIntS.calls k _ _ l0_1 t1479 _ ?side1 ?side2 A2.out).mono ?_); (case side1 => exact Kd.C_below HR0_1.out (bb HB)); (case side2 => exact HC0_1.out); rintro e w12 ⟨v1480, rfl, ho0, hb⟩; refine ⟨_, rfl, ?_⟩; have HO1481 := kl ho0 HB; replace BK1476 := dk (blk_below (bf NB1476_1478.out BK1476) hb); replace BK1477 := dk (blk_below (bf NB1477_1478.out BK1477) hb); replace BK1478 := dk (blk_below (g := gb1478) (o := .cells #[.bool a0_0, .slice none 0 0, .slice none 0 0] 62 (0, 0)) (bp BK1478) hb); replace HB := hs_ HB hb; obtain ⟨Ao13, co13, eo13⟩ := Kd.R_slice HO1481.out; subst eo13; have ⟨z14_0, z14_1, z14_2, v14_0, v14_1, v14_2⟩ := rz3 BK1478; have ⟨z15_0, z15_1, z15_2, v15_0, v15_1, v15_2⟩ := rz3 BK1476) | ((with_reducible refine gcallee_ 39 rfl ?_); refine gl (some 13) Try.func39 #[.slice A0_2 l0_2.length c0_2] ?_; (with_reducible refine (laws_toIntS.calls k _ _ l0_2 t1482 _ ?side1 ?side2 A3.out).mono ?_); (case side1 => exact Kd.C_below HR0_2.out (bb HB)); (case side2 => exact HC0_2.out); rintro e w16 ⟨v1483, rfl, ho0, hb⟩; refine ⟨_, rfl, ?_⟩; have HO1484 := dk (Kd.R_lower (Kd.R_new' ho0 (Kd.R_lt (rf HO1481 BK1478 (fun _ h_ => h_.1)))) (below_size (bb HB))); replace HO1481 := dk (Kd.R_elder' (rf HO1481 BK1478 (fun _ h_ => h_.1)) (Kd.R_base ho0) hb); replace BK1476 := dk (blk_below (bf NB1476_1478.out BK1476) hb); replace BK1477 := dk (blk_below (bf NB1477_1478.out BK1477) hb); replace BK1478 := dk (blk_below (g := gb1478) (o := .cells #[.bool a0_0, .slice Ao13 t1479.length co13, .slice none 0 0] 62 (0, 0)) (bp BK1478) hb); replace HB := hs_ HB hb; obtain ⟨Ao17, co17, eo17⟩ := Kd.R_slice HO1484.out; subst eo17; have ⟨z18_0, z18_1, z18_2, v18_0, v18_1, v18_2⟩ := rz3 BK1478; have ⟨z19_0, z19_1, z19_2, v19_0, v19_1, v19_2⟩ := rz3 BK1477))
 refine bodyPost_ret (results_cell_row rfl _ _ gb1477 62 #[.bool a0_0, .slice Ao13 t1479.length co13, .slice Ao17 t1482.length co17] (0, 0) _ rfl (by (with_reducible repeat (first | refine blk_drewN ?_ _ | refine blk_drew ?_ | refine blk_alloc ?_ _)); refine blk_put (cs := #[.bool a0_0, .slice Ao13 t1479.length co13, .slice none 0 0]) ?_ 2 _ rfl; (with_reducible repeat (first | refine blk_drewN ?_ _ | refine blk_drew ?_ | refine blk_alloc ?_ _)); refine blk_put (cs := #[.bool a0_0, .slice none 0 0, .slice none 0 0]) ?_ 1 _ rfl; (with_reducible repeat (first | refine blk_drewN ?_ _ | refine blk_drew ?_ | refine blk_alloc ?_ _)); refine blk_put (cs := #[.bool false, .slice none 0 0, .slice none 0 0]) ?_ 0 _ rfl; exact bf NB1477_1478.out BK1477) Try.underlying62 rfl (by kernel_rfl)) rfl ?_
 exact ⟨_, _, ee, by (with_reducible repeat (first | apply Kd.R_alloc | apply Kd.R_drewN | apply Kd.R_drew)); exact Kd.R_mono (Kd.R_far (p := ⟨gb1477, 2, none⟩) (Kd.R_far (p := ⟨gb1477, 1, none⟩) (Kd.R_far (p := ⟨gb1477, 0, none⟩) (Kd.R_far (p := ⟨gb1478, 2, none⟩) (Kd.R_types (Kd.R_types HO1481.out BK1478.out (by decide)) BK1477.out (by decide)) (fun _ hk => hk.1.2) (.slice Ao17 t1482.length co17)) (fun _ hk => hk.2) (.bool a0_0)) (fun _ hk => hk.2) (.slice Ao13 t1479.length co13)) (fun _ hk => hk.2) (.slice Ao17 t1482.length co17)) (fun _ hk => hk.1.1.2), by (with_reducible repeat (first | apply Kd.R_alloc | apply Kd.R_drewN | apply Kd.R_drew)); exact Kd.R_mono (Kd.R_far (p := ⟨gb1477, 2, none⟩) (Kd.R_far (p := ⟨gb1477, 1, none⟩) (Kd.R_far (p := ⟨gb1477, 0, none⟩) (Kd.R_far (p := ⟨gb1478, 2, none⟩) (Kd.R_types (Kd.R_types HO1484.out BK1478.out (by decide)) BK1477.out (by decide)) (fun _ hk => hk.1.2) (.slice Ao17 t1482.length co17)) (fun _ hk => hk.2) (.bool a0_0)) (fun _ hk => hk.2) (.slice Ao13 t1479.length co13)) (fun _ hk => hk.2) (.slice Ao17 t1482.length co17)) (fun _ hk => hk.1.1.2), bb HB⟩
def slices_Index_int_int.l0 : Nat → List Int → Int → Int → Int → Option (Int)
 | 0, _, _, _, _ => none
 | k + 1, x0, x1, x7, x8 => if x8 < x7 then (if 0 ≤ x8 then (if x8 < (x0.length : Int) then (if x1 = (rd x0 x8) then (some x8) else (slices_Index_int_int.l0 k x0 x1 x7 (wrap64 (x8 + 1)))) else (none)) else (none)) else (some (-1))
def slices_Index_int_int.f (k : Nat) (l0 : List Int) (a1 : Int) : Option (Int) := slices_Index_int_int.l0 k l0 a1 (l0.length : Int) 0
theorem slices_Index_int_int.calls (k : Nat) (A0 : Option Addr) (c0 : Nat) (l0 : List Int) (a1 : Int) (r : Int) (w : World) (hr0 : Kd.C (Kd.int .i64) w A0 l0.length l0) (hc0 : l0.length ≤ c0) (h : slices_Index_int_int.f k l0 a1 = some r) :
  Calls Try.prog 145 #[.slice A0 l0.length c0, .int .i64 a1] w fun e w' => e = .returned (.int .i64 r) ∧ Drawn0 w w' := by
 have HR0 := dk hr0
 have HC0 := dk hc0
 clear hr0 hc0
 have H : (slices_Index_int_int.l0 k l0 a1 (l0.length : Int) 0) = some r := h
 clear h
 have H' := dk H
 clear H
 go_enter Try.func145, Try.ntmps145
 go_wp2
 go_loopg [8] k (fun kq v8 w' => ∃ (x8_1 : Int), v8 = .int .i64 x8_1 ∧ Aside0 (slices_Index_int_int.l0 kq l0 a1 (l0.length : Int) x8_1 = some r) ∧ Aside0 (kq ≤ k) ∧ Drawn0 w w')
 case atStart => exact ⟨(0), e2_, H', ⟨Nat.le_refl _⟩, by repeat (first | exact Drawn0.refl _ | apply Drawn0.step)⟩
 case round =>
  clear H'
  obtain ⟨x8_1, rfl, HA, HK1, ⟨m1, rfl⟩⟩ := hrel
  cases gk with
  | zero => exact absurd HA.out (by simp [slices_Index_int_int.l0])
  | succ k1 =>
   have H := HA.out
   clear HA
   simp only [slices_Index_int_int.l0] at H
   by_cases c3 : x8_1 < (l0.length : Int)
   ·rw [if_pos c3] at H
    have c3b0 := decide_eq_true c3
    clear c3
    by_cases c4 : 0 ≤ x8_1
    ·rw [if_pos c4] at H
     have c4b0 := decide_eq_true c4
     clear c4
     by_cases c5 : x8_1 < (l0.length : Int)
     ·rw [if_pos c5] at H
      have c5b0 := decide_eq_true c5
      clear c5
      by_cases c6 : a1 = (rd l0 x8_1)
      ·rw [if_pos c6] at H
       have c6b0 := beq_iff_eq.mpr c6
       have c6b1 := bne_eq_false_iff_eq.mpr c6
       clear c6
       obtain rfl := Option.some.inj H
       have p307 : 0 ≤ (x8_1 : Int) := oa
       have q307 : x8_1 < (l0.length : Int) := oa
       obtain ⟨ad307, e307, hx307_0⟩ := Kd.at_int HR0.out x8_1 p307 q307
       cases e307
       replace p307 := eq_true p307
       replace q307 := eq_true q307
       go_wp2
       go_ret
       exact ⟨e2_, by repeat (first | exact Drawn0.refl _ | apply Drawn0.step)⟩
      ·rw [if_neg c6] at H
       have c6b0 := beq_eq_false_iff_ne.mpr c6
       have c6b1 := bne_iff_ne.mpr c6
       have H' := dk H
       clear H
       have p307 : 0 ≤ (x8_1 : Int) := oa
       have q307 : x8_1 < (l0.length : Int) := oa
       obtain ⟨ad307, e307, hx307_0⟩ := Kd.at_int HR0.out x8_1 p307 q307
       cases e307
       replace p307 := eq_true p307
       replace q307 := eq_true q307
       go_wp2
       go_roundg k1
       case measure => have := HK1.out; omega
       case rel => exact ⟨(wrap64 (x8_1 + 1)), e2_, H', ⟨by have := HK1.out; omega⟩, by repeat (first | exact Drawn0.refl _ | apply Drawn0.step)⟩
     ·rw [if_neg c5] at H
      exact absurd H (by simp)
    ·rw [if_neg c4] at H
     exact absurd H (by simp)
   ·rw [if_neg c3] at H
    have c3b0 := decide_eq_false c3
    clear c3
    obtain rfl := Option.some.inj H
    go_wp2
    go_ret
    exact ⟨e2_, by repeat (first | exact Drawn0.refl _ | apply Drawn0.step)⟩
def slices_Contains_int_int.f (k : Nat) (l0 : List Int) (a1 : Int) : Option (Bool) := (slices_Index_int_int.f k l0 a1).bind fun t308 => (some (decide (t308 ≥ 0)))
theorem slices_Contains_int_int.calls (k : Nat) (A0 : Option Addr) (c0 : Nat) (l0 : List Int) (a1 : Int) (r : Bool) (w : World) (hr0 : Kd.C (Kd.int .i64) w A0 l0.length l0) (hc0 : l0.length ≤ c0) (h : slices_Contains_int_int.f k l0 a1 = some r) :
  Calls Try.prog 95 #[.slice A0 l0.length c0, .int .i64 a1] w fun e w' => e = .returned (.bool r) ∧ Drawn0 w w' := by
 have HR0 := dk hr0
 have HC0 := dk hc0
 clear hr0 hc0
 have H : ((slices_Index_int_int.f k l0 a1).bind fun t308 => (some (decide (t308 ≥ 0)))) = some r := h
 clear h
 replace H := Option.bind_eq_some_iff.mp H
 obtain ⟨t308, A30, H⟩ := H
 try dsimp only at H
 have A3 := dk A30
 clear A30
 obtain rfl := Option.some.inj H
 go_enter Try.func95, Try.ntmps95
 go_wp2_with (first | ((with_reducible refine gcallee_ 145 rfl ?_); refine gl (some 7) Try.func145 #[.slice A0 l0.length c0, .int .i64 a1] ?_; (with_reducible refine (slices_Index_int_int.calls k _ _ l0 a1 t308 _ ?side1 ?side2 A3.out).mono ?_); (case side1 => exact cz_ HR0); (case side2 => exact HC0.out); rintro e w' ⟨rfl, ⟨nd, rfl⟩⟩; refine ⟨_, rfl, ?_⟩))
 go_ret
 exact ⟨e2_, by repeat (first | exact Drawn0.refl _ | apply Drawn0.step)⟩
def impl_within.f (a0 : Int) (a1 : Int) (a2 : Int) : Option (Bool) := if a1 ≤ a0 then (some (decide (a0 ≤ a2))) else (some false)
theorem impl_within.calls (a0 : Int) (a1 : Int) (a2 : Int) (r : Bool) (w : World) (h : impl_within.f a0 a1 a2 = some r) :
  Calls Try.prog 128 #[.int .i64 a0, .int .i64 a1, .int .i64 a2] w fun e w' => e = .returned (.bool r) ∧ Drawn0 w w' := by
 have H : (if a1 ≤ a0 then (some (decide (a0 ≤ a2))) else (some false)) = some r := h
 clear h
 by_cases c4 : a1 ≤ a0
 ·rw [if_pos c4] at H
  have c4b0 := decide_eq_true c4
  clear c4
  obtain rfl := Option.some.inj H
  go_enter Try.func128, Try.ntmps128
  go_wp2
  go_ret
  exact ⟨e2_, by repeat (first | exact Drawn0.refl _ | apply Drawn0.step)⟩
 ·rw [if_neg c4] at H
  have c4b0 := decide_eq_false c4
  clear c4
  obtain rfl := Option.some.inj H
  go_enter Try.func128, Try.ntmps128
  go_wp2
  go_ret
  exact ⟨e2_, by repeat (first | exact Drawn0.refl _ | apply Drawn0.step)⟩
def impl_isTeam.f (l0_0 : List (S139)) (a0_1 : Int) (a0_2 : Int) (a0_3 : Int) (l0_4 : List Int) (a0_5 : Bool) (l0_6 : List (S95)) (l0_7 : List Int) (l0_8 : List Int) (a1 : Int) : Option (Bool) := (impl_within.f a1 0 (wrap64 ((l0_0.length : Int) - 1))).bind fun t908 => (some t908)
theorem impl_isTeam.calls (A0_0 : Option Addr) (c0_0 : Nat) (l0_0 : List (S139)) (a0_1 : Int) (a0_2 : Int) (a0_3 : Int) (A0_4 : Option Addr) (c0_4 : Nat) (l0_4 : List Int) (a0_5 : Bool) (A0_6 : Option Addr) (c0_6 : Nat) (l0_6 : List (S95)) (A0_7 : Option Addr) (c0_7 : Nat) (l0_7 : List Int) (A0_8 : Option Addr) (c0_8 : Nat) (l0_8 : List Int) (a1 : Int) (r : Bool) (w : World) (hr0_0 : Kd.C k139 w A0_0 l0_0.length l0_0) (hc0_0 : l0_0.length ≤ c0_0) (hr0_4 : Kd.C (Kd.int .i64) w A0_4 l0_4.length l0_4) (hc0_4 : l0_4.length ≤ c0_4) (hr0_6 : Kd.C k95 w A0_6 l0_6.length l0_6) (hc0_6 : l0_6.length ≤ c0_6) (hr0_7 : Kd.C (Kd.int .i64) w A0_7 l0_7.length l0_7) (hc0_7 : l0_7.length ≤ c0_7) (hr0_8 : Kd.C (Kd.int .i64) w A0_8 l0_8.length l0_8) (hc0_8 : l0_8.length ≤ c0_8) (h : impl_isTeam.f l0_0 a0_1 a0_2 a0_3 l0_4 a0_5 l0_6 l0_7 l0_8 a1 = some r) :
  Calls Try.prog 78 #[.agg #[.slice A0_0 l0_0.length c0_0, .int .i64 a0_1, .int .i64 a0_2, .int .i64 a0_3, .slice A0_4 l0_4.length c0_4, .bool a0_5, .slice A0_6 l0_6.length c0_6, .slice A0_7 l0_7.length c0_7, .slice A0_8 l0_8.length c0_8], .int .i64 a1] w fun e w' => e = .returned (.bool r) ∧ Below w.heap.size w w' := by
 have hu36 := Try.underlying36
 have HR0_0 := dk hr0_0
 have HC0_0 := dk hc0_0
 clear hr0_0 hc0_0
 have HR0_4 := dk hr0_4
 have HC0_4 := dk hc0_4
 clear hr0_4 hc0_4
 have HR0_6 := dk hr0_6
 have HC0_6 := dk hc0_6
 clear hr0_6 hc0_6
 have HR0_7 := dk hr0_7
 have HC0_7 := dk hc0_7
 clear hr0_7 hc0_7
 have HR0_8 := dk hr0_8
 have HC0_8 := dk hc0_8
 clear hr0_8 hc0_8
 have HB := hb0 w
 have H : ((impl_within.f a1 0 (wrap64 ((l0_0.length : Int) - 1))).bind fun t908 => (some t908)) = some r := h
 clear h
 replace H := Option.bind_eq_some_iff.mp H
 obtain ⟨t908, A30, H⟩ := H
 try dsimp only at H
 have A3 := dk A30
 clear A30
 obtain rfl := Option.some.inj H
 go_enter Try.func78, Try.ntmps78
 go_wp2_with (first | ((with_reducible refine gdst_ 2 rfl ?_); refine bx (N := 2) (cs := #[.slice A0_0 l0_0.length c0_0, .int .i64 a0_1, .int .i64 a0_2, .int .i64 a0_3, .slice A0_4 l0_4.length c0_4, .bool a0_5, .slice A0_6 l0_6.length c0_6, .slice A0_7 l0_7.length c0_7, .slice A0_8 l0_8.length c0_8]) (t := 36) ?_; intro gb907 hg w4 hbox hb; have BK907 := dk (hbox); have GW907 := gs hg HB; have GE907 := gs hg HB; replace HB := hs_ HB hb; clear hb hbox hg; have ⟨z5_0, z5_1, z5_2, z5_3, z5_4, z5_5, z5_6, z5_7, z5_8, v5_0, v5_1, v5_2, v5_3, v5_4, v5_5, v5_6, v5_7, v5_8⟩ := rz9 BK907) | ((with_reducible refine gcallee_ 128 rfl ?_); refine gl (some 10) Try.func128 #[.int .i64 a1, .int .i64 0, .int .i64 (wrap64 ((l0_0.length : Int) - 1))] ?_; (with_reducible refine (impl_within.calls a1 0 (wrap64 ((l0_0.length : Int) - 1)) t908 _ A3.out).mono ?_); rintro e w' ⟨rfl, ⟨nd, rfl⟩⟩; refine ⟨_, rfl, ?_⟩))
 go_ret
 exact ⟨ee, bb HB⟩
def impl_IsName.l0 : Nat → ByteArray → Int → Int → Option (Bool)
 | 0, _, _, _ => none
 | k + 1, x0, x6, x7 => if x7 < x6 then (if 0 ≤ x7 then (if x7 < (x0.size : Int) then (if (bt x0 x7) ≥ 97 then (if ((bt x0 x7) ≤ 122) then (impl_IsName.l0 k x0 x6 (wrap64 (x7 + 1))) else (if x7 = 0 then (some false) else (if (bt x0 x7) < 48 then (some false) else (if (bt x0 x7) > 57 then (some false) else (impl_IsName.l0 k x0 x6 (wrap64 (x7 + 1))))))) else (if x7 = 0 then (some false) else (if (bt x0 x7) < 48 then (some false) else (if (bt x0 x7) > 57 then (some false) else (impl_IsName.l0 k x0 x6 (wrap64 (x7 + 1))))))) else (none)) else (none)) else ((impl_within.f (x0.size : Int) 1 8).bind fun t302 => (some t302))
def impl_IsName.f (k : Nat) (a0 : ByteArray) : Option (Bool) := impl_IsName.l0 k a0 (a0.size : Int) 0
theorem impl_IsName.calls (k : Nat) (a0 : ByteArray) (r : Bool) (w : World) (h : impl_IsName.f k a0 = some r) :
  Calls Try.prog 184 #[.string a0] w fun e w' => e = .returned (.bool r) ∧ Drawn0 w w' := by
 have H : (impl_IsName.l0 k a0 (a0.size : Int) 0) = some r := h
 clear h
 have H' := dk H
 clear H
 go_enter Try.func184, Try.ntmps184
 go_wp2
 go_loopg [7] k (fun kq v7 w' => ∃ (x7_1 : Int), v7 = .int .i64 x7_1 ∧ Aside0 (impl_IsName.l0 kq a0 (a0.size : Int) x7_1 = some r) ∧ Aside0 (kq ≤ k) ∧ Drawn0 w w')
 case atStart => exact ⟨(0), e2_, H', ⟨Nat.le_refl _⟩, by repeat (first | exact Drawn0.refl _ | apply Drawn0.step)⟩
 case round =>
  clear H'
  obtain ⟨x7_1, rfl, HA, HK1, ⟨m1, rfl⟩⟩ := hrel
  cases gk with
  | zero => exact absurd HA.out (by simp [impl_IsName.l0])
  | succ k1 =>
   have H := HA.out
   clear HA
   simp only [impl_IsName.l0] at H
   by_cases c2 : x7_1 < (a0.size : Int)
   ·rw [if_pos c2] at H
    have c2b0 := decide_eq_true c2
    clear c2
    by_cases c3 : 0 ≤ x7_1
    ·rw [if_pos c3] at H
     have c3b0 := decide_eq_true c3
     clear c3
     by_cases c4 : x7_1 < (a0.size : Int)
     ·rw [if_pos c4] at H
      have c4b0 := decide_eq_true c4
      clear c4
      by_cases c6 : (bt a0 x7_1) ≥ 97
      ·rw [if_pos c6] at H
       have c6b0 := decide_eq_true c6
       clear c6
       by_cases c8 : ((bt a0 x7_1) ≤ 122)
       ·rw [if_pos c8] at H
        have c8b0 := decide_eq_true c8
        clear c8
        have H' := dk H
        clear H
        have p5 : 0 ≤ (x7_1 : Int) := oa
        have q5 : x7_1 < (a0.size : Int) := oa
        have hx5 := bt_at a0 x7_1
        replace p5 := eq_true p5
        replace q5 := eq_true q5
        have p7 : 0 ≤ (x7_1 : Int) := oa
        have q7 : x7_1 < (a0.size : Int) := oa
        have hx7 := bt_at a0 x7_1
        replace p7 := eq_true p7
        replace q7 := eq_true q7
        go_wp2
        go_roundg k1
        case measure => have := HK1.out; omega
        case rel => exact ⟨(wrap64 (x7_1 + 1)), e2_, H', ⟨by have := HK1.out; omega⟩, by repeat (first | exact Drawn0.refl _ | apply Drawn0.step)⟩
       ·rw [if_neg c8] at H
        have c8b0 := decide_eq_false c8
        clear c8
        by_cases c9 : x7_1 = 0
        ·rw [if_pos c9] at H
         have c9b0 := beq_iff_eq.mpr c9
         have c9b1 := bne_eq_false_iff_eq.mpr c9
         clear c9
         obtain rfl := Option.some.inj H
         have p5 : 0 ≤ (x7_1 : Int) := oa
         have q5 : x7_1 < (a0.size : Int) := oa
         have hx5 := bt_at a0 x7_1
         replace p5 := eq_true p5
         replace q5 := eq_true q5
         have p7 : 0 ≤ (x7_1 : Int) := oa
         have q7 : x7_1 < (a0.size : Int) := oa
         have hx7 := bt_at a0 x7_1
         replace p7 := eq_true p7
         replace q7 := eq_true q7
         go_wp2
         go_ret
         exact ⟨e2_, by repeat (first | exact Drawn0.refl _ | apply Drawn0.step)⟩
        ·rw [if_neg c9] at H
         have c9b0 := beq_eq_false_iff_ne.mpr c9
         have c9b1 := bne_iff_ne.mpr c9
         by_cases c11 : (bt a0 x7_1) < 48
         ·rw [if_pos c11] at H
          have c11b0 := decide_eq_true c11
          clear c11
          obtain rfl := Option.some.inj H
          have p5 : 0 ≤ (x7_1 : Int) := oa
          have q5 : x7_1 < (a0.size : Int) := oa
          have hx5 := bt_at a0 x7_1
          replace p5 := eq_true p5
          replace q5 := eq_true q5
          have p7 : 0 ≤ (x7_1 : Int) := oa
          have q7 : x7_1 < (a0.size : Int) := oa
          have hx7 := bt_at a0 x7_1
          replace p7 := eq_true p7
          replace q7 := eq_true q7
          have p10 : 0 ≤ (x7_1 : Int) := oa
          have q10 : x7_1 < (a0.size : Int) := oa
          have hx10 := bt_at a0 x7_1
          replace p10 := eq_true p10
          replace q10 := eq_true q10
          go_wp2
          go_ret
          exact ⟨e2_, by repeat (first | exact Drawn0.refl _ | apply Drawn0.step)⟩
         ·rw [if_neg c11] at H
          have c11b0 := decide_eq_false c11
          clear c11
          by_cases c13 : (bt a0 x7_1) > 57
          ·rw [if_pos c13] at H
           have c13b0 := decide_eq_true c13
           clear c13
           obtain rfl := Option.some.inj H
           have p5 : 0 ≤ (x7_1 : Int) := oa
           have q5 : x7_1 < (a0.size : Int) := oa
           have hx5 := bt_at a0 x7_1
           replace p5 := eq_true p5
           replace q5 := eq_true q5
           have p7 : 0 ≤ (x7_1 : Int) := oa
           have q7 : x7_1 < (a0.size : Int) := oa
           have hx7 := bt_at a0 x7_1
           replace p7 := eq_true p7
           replace q7 := eq_true q7
           have p10 : 0 ≤ (x7_1 : Int) := oa
           have q10 : x7_1 < (a0.size : Int) := oa
           have hx10 := bt_at a0 x7_1
           replace p10 := eq_true p10
           replace q10 := eq_true q10
           have p12 : 0 ≤ (x7_1 : Int) := oa
           have q12 : x7_1 < (a0.size : Int) := oa
           have hx12 := bt_at a0 x7_1
           replace p12 := eq_true p12
           replace q12 := eq_true q12
           go_wp2
           go_ret
           exact ⟨e2_, by repeat (first | exact Drawn0.refl _ | apply Drawn0.step)⟩
          ·rw [if_neg c13] at H
           have c13b0 := decide_eq_false c13
           clear c13
           have H' := dk H
           clear H
           have p5 : 0 ≤ (x7_1 : Int) := oa
           have q5 : x7_1 < (a0.size : Int) := oa
           have hx5 := bt_at a0 x7_1
           replace p5 := eq_true p5
           replace q5 := eq_true q5
           have p7 : 0 ≤ (x7_1 : Int) := oa
           have q7 : x7_1 < (a0.size : Int) := oa
           have hx7 := bt_at a0 x7_1
           replace p7 := eq_true p7
           replace q7 := eq_true q7
           have p10 : 0 ≤ (x7_1 : Int) := oa
           have q10 : x7_1 < (a0.size : Int) := oa
           have hx10 := bt_at a0 x7_1
           replace p10 := eq_true p10
           replace q10 := eq_true q10
           have p12 : 0 ≤ (x7_1 : Int) := oa
           have q12 : x7_1 < (a0.size : Int) := oa
           have hx12 := bt_at a0 x7_1
           replace p12 := eq_true p12
           replace q12 := eq_true q12
           go_wp2
           go_roundg k1
           case measure => have := HK1.out; omega
           case rel => exact ⟨(wrap64 (x7_1 + 1)), e2_, H', ⟨by have := HK1.out; omega⟩, by repeat (first | exact Drawn0.refl _ | apply Drawn0.step)⟩
      ·rw [if_neg c6] at H
       have c6b0 := decide_eq_false c6
       clear c6
       by_cases c14 : x7_1 = 0
       ·rw [if_pos c14] at H
        have c14b0 := beq_iff_eq.mpr c14
        have c14b1 := bne_eq_false_iff_eq.mpr c14
        clear c14
        obtain rfl := Option.some.inj H
        have p5 : 0 ≤ (x7_1 : Int) := oa
        have q5 : x7_1 < (a0.size : Int) := oa
        have hx5 := bt_at a0 x7_1
        replace p5 := eq_true p5
        replace q5 := eq_true q5
        go_wp2
        go_ret
        exact ⟨e2_, by repeat (first | exact Drawn0.refl _ | apply Drawn0.step)⟩
       ·rw [if_neg c14] at H
        have c14b0 := beq_eq_false_iff_ne.mpr c14
        have c14b1 := bne_iff_ne.mpr c14
        by_cases c16 : (bt a0 x7_1) < 48
        ·rw [if_pos c16] at H
         have c16b0 := decide_eq_true c16
         clear c16
         obtain rfl := Option.some.inj H
         have p5 : 0 ≤ (x7_1 : Int) := oa
         have q5 : x7_1 < (a0.size : Int) := oa
         have hx5 := bt_at a0 x7_1
         replace p5 := eq_true p5
         replace q5 := eq_true q5
         have p15 : 0 ≤ (x7_1 : Int) := oa
         have q15 : x7_1 < (a0.size : Int) := oa
         have hx15 := bt_at a0 x7_1
         replace p15 := eq_true p15
         replace q15 := eq_true q15
         go_wp2
         go_ret
         exact ⟨e2_, by repeat (first | exact Drawn0.refl _ | apply Drawn0.step)⟩
        ·rw [if_neg c16] at H
         have c16b0 := decide_eq_false c16
         clear c16
         by_cases c18 : (bt a0 x7_1) > 57
         ·rw [if_pos c18] at H
          have c18b0 := decide_eq_true c18
          clear c18
          obtain rfl := Option.some.inj H
          have p5 : 0 ≤ (x7_1 : Int) := oa
          have q5 : x7_1 < (a0.size : Int) := oa
          have hx5 := bt_at a0 x7_1
          replace p5 := eq_true p5
          replace q5 := eq_true q5
          have p15 : 0 ≤ (x7_1 : Int) := oa
          have q15 : x7_1 < (a0.size : Int) := oa
          have hx15 := bt_at a0 x7_1
          replace p15 := eq_true p15
          replace q15 := eq_true q15
          have p17 : 0 ≤ (x7_1 : Int) := oa
          have q17 : x7_1 < (a0.size : Int) := oa
          have hx17 := bt_at a0 x7_1
          replace p17 := eq_true p17
          replace q17 := eq_true q17
          go_wp2
          go_ret
          exact ⟨e2_, by repeat (first | exact Drawn0.refl _ | apply Drawn0.step)⟩
         ·rw [if_neg c18] at H
          have c18b0 := decide_eq_false c18
          clear c18
          have H' := dk H
          clear H
          have p5 : 0 ≤ (x7_1 : Int) := oa
          have q5 : x7_1 < (a0.size : Int) := oa
          have hx5 := bt_at a0 x7_1
          replace p5 := eq_true p5
          replace q5 := eq_true q5
          have p15 : 0 ≤ (x7_1 : Int) := oa
          have q15 : x7_1 < (a0.size : Int) := oa
          have hx15 := bt_at a0 x7_1
          replace p15 := eq_true p15
          replace q15 := eq_true q15
          have p17 : 0 ≤ (x7_1 : Int) := oa
          have q17 : x7_1 < (a0.size : Int) := oa
          have hx17 := bt_at a0 x7_1
          replace p17 := eq_true p17
          replace q17 := eq_true q17
          go_wp2
          go_roundg k1
          case measure => have := HK1.out; omega
          case rel => exact ⟨(wrap64 (x7_1 + 1)), e2_, H', ⟨by have := HK1.out; omega⟩, by repeat (first | exact Drawn0.refl _ | apply Drawn0.step)⟩
     ·rw [if_neg c4] at H
      exact absurd H (by simp)
    ·rw [if_neg c3] at H
     exact absurd H (by simp)
   ·rw [if_neg c2] at H
    have c2b0 := decide_eq_false c2
    clear c2
    replace H := Option.bind_eq_some_iff.mp H
    obtain ⟨t302, A190, H⟩ := H
    try dsimp only at H
    have A19 := dk A190
    clear A190
    obtain rfl := Option.some.inj H
    go_wp2_with (first | ((with_reducible refine gcallee_ 128 rfl ?_); refine gl (some 41) Try.func128 #[.int .i64 (a0.size : Int), .int .i64 1, .int .i64 8] ?_; (with_reducible refine (impl_within.calls (a0.size : Int) 1 8 t302 _ A19.out).mono ?_); rintro e w' ⟨rfl, ⟨nd, rfl⟩⟩; refine ⟨_, rfl, ?_⟩))
    go_ret
    exact ⟨e2_, by repeat (first | exact Drawn0.refl _ | apply Drawn0.step)⟩
def impl_TeamOk.f (k : Nat) (a0_0 : ByteArray) (a0_1 : Int) (a0_2 : Int) : Option (Bool) := (impl_IsName.f k a0_0).bind fun t304 => (if t304 = true then ((impl_within.f a0_1 0 5).bind fun t305 => (if t305 = true then ((impl_within.f a0_2 1 8).bind fun t306 => (some t306)) else (some false))) else (some false))
theorem impl_TeamOk.calls (k : Nat) (a0_0 : ByteArray) (a0_1 : Int) (a0_2 : Int) (r : Bool) (w : World) (h : impl_TeamOk.f k a0_0 a0_1 a0_2 = some r) :
  Calls Try.prog 160 #[.agg #[.string a0_0, .int .i64 a0_1, .int .i64 a0_2]] w fun e w' => e = .returned (.bool r) ∧ Below w.heap.size w w' := by
 have hu139 := Try.underlying139
 have HB := hb0 w
 have H : ((impl_IsName.f k a0_0).bind fun t304 => (if t304 = true then ((impl_within.f a0_1 0 5).bind fun t305 => (if t305 = true then ((impl_within.f a0_2 1 8).bind fun t306 => (some t306)) else (some false))) else (some false))) = some r := h
 clear h
 replace H := Option.bind_eq_some_iff.mp H
 obtain ⟨t304, A20, H⟩ := H
 try dsimp only at H
 have A2 := dk A20
 clear A20
 by_cases c3 : t304 = true
 ·subst c3
  rw [if_pos rfl] at H
  replace H := Option.bind_eq_some_iff.mp H
  obtain ⟨t305, A40, H⟩ := H
  try dsimp only at H
  have A4 := dk A40
  clear A40
  by_cases c5 : t305 = true
  ·subst c5
   rw [if_pos rfl] at H
   replace H := Option.bind_eq_some_iff.mp H
   obtain ⟨t306, A60, H⟩ := H
   try dsimp only at H
   have A6 := dk A60
   clear A60
   obtain rfl := Option.some.inj H
   go_enter Try.func160, Try.ntmps160
   go_wp2_with (first | ((with_reducible refine gdst_ 1 rfl ?_); refine bx (N := 1) (cs := #[.string a0_0, .int .i64 a0_1, .int .i64 a0_2]) (t := 139) ?_; intro gb303 hg w7 hbox hb; have BK303 := dk (hbox); have GW303 := gs hg HB; have GE303 := gs hg HB; replace HB := hs_ HB hb; clear hb hbox hg; have ⟨z8_0, z8_1, z8_2, v8_0, v8_1, v8_2⟩ := rz3 BK303) | ((with_reducible refine gcallee_ 184 rfl ?_); refine gl (some 5) Try.func184 #[.string a0_0] ?_; (with_reducible refine (impl_IsName.calls k a0_0 true _ A2.out).mono ?_); rintro e w' ⟨rfl, ⟨nd, rfl⟩⟩; refine ⟨_, rfl, ?_⟩) | (go_at_call 128; (with_reducible refine (impl_within.calls a0_1 0 5 true _ A4.out).mono ?_); rintro e w' ⟨rfl, ⟨nd, rfl⟩⟩) | (go_at_call 128; (with_reducible refine (impl_within.calls a0_2 1 8 t306 _ A6.out).mono ?_); rintro e w' ⟨rfl, ⟨nd, rfl⟩⟩))
   go_ret
   exact ⟨ee, bb HB⟩
  ·replace c5 := Bool.eq_false_iff.mpr c5
   subst c5
   rw [if_neg (show ¬ (false = true) by decide)] at H
   obtain rfl := Option.some.inj H
   go_enter Try.func160, Try.ntmps160
   go_wp2_with (first | ((with_reducible refine gdst_ 1 rfl ?_); refine bx (N := 1) (cs := #[.string a0_0, .int .i64 a0_1, .int .i64 a0_2]) (t := 139) ?_; intro gb303 hg w9 hbox hb; have BK303 := dk (hbox); have GW303 := gs hg HB; have GE303 := gs hg HB; replace HB := hs_ HB hb; clear hb hbox hg; have ⟨z10_0, z10_1, z10_2, v10_0, v10_1, v10_2⟩ := rz3 BK303) | ((with_reducible refine gcallee_ 184 rfl ?_); refine gl (some 5) Try.func184 #[.string a0_0] ?_; (with_reducible refine (impl_IsName.calls k a0_0 true _ A2.out).mono ?_); rintro e w' ⟨rfl, ⟨nd, rfl⟩⟩; refine ⟨_, rfl, ?_⟩) | (go_at_call 128; (with_reducible refine (impl_within.calls a0_1 0 5 false _ A4.out).mono ?_); rintro e w' ⟨rfl, ⟨nd, rfl⟩⟩))
   go_ret
   exact ⟨ee, bb HB⟩
 ·replace c3 := Bool.eq_false_iff.mpr c3
  subst c3
  rw [if_neg (show ¬ (false = true) by decide)] at H
  obtain rfl := Option.some.inj H
  go_enter Try.func160, Try.ntmps160
  go_wp2_with (first | ((with_reducible refine gdst_ 1 rfl ?_); refine bx (N := 1) (cs := #[.string a0_0, .int .i64 a0_1, .int .i64 a0_2]) (t := 139) ?_; intro gb303 hg w11 hbox hb; have BK303 := dk (hbox); have GW303 := gs hg HB; have GE303 := gs hg HB; replace HB := hs_ HB hb; clear hb hbox hg; have ⟨z12_0, z12_1, z12_2, v12_0, v12_1, v12_2⟩ := rz3 BK303) | ((with_reducible refine gcallee_ 184 rfl ?_); refine gl (some 5) Try.func184 #[.string a0_0] ?_; (with_reducible refine (impl_IsName.calls k a0_0 false _ A2.out).mono ?_); rintro e w' ⟨rfl, ⟨nd, rfl⟩⟩; refine ⟨_, rfl, ?_⟩))
  go_ret
  exact ⟨ee, bb HB⟩
set_option maxHeartbeats 4000000 in
theorem slices_IndexFunc_impl_Team_impl_Team.calls (g : Nat) (lb : Array Value) (eg : ∀ args w, (callFunc g args).run Try.prog w = .ok (.enter g args) w) (p : S139 → Bool) (A0 : Option Addr) (c0 n0 : Nat) (l0 : List (S139)) (w0 w : World) (hB : Below w0.heap.size w0 w) (hr0 : Kd.C k139 w0 A0 n0 l0)
    (hp : ∀ (W : World) (x : S139), Below w.heap.size w W → x ∈ l0 → Calls Try.prog g (#[.agg #[.string x.f0, .int .i64 x.f1, .int .i64 x.f2]] ++ lb) W fun e w' => e = .returned (.bool (p x)) ∧ Below W.heap.size W w') :
    Calls Try.prog 185 #[.slice A0 n0 c0, .func (.func g) #[] lb] w fun e w' => e = .returned (.int .i64 (idxI p l0)) ∧ Below w.heap.size w w' := by
  obtain rfl := Kd.C_len hr0
  have hm : l0.length ≤ 9223372036854775807 := hr0.2.1
  have HR0 := dk hr0
  have HP := dk hp
  have HW := dk hB.size
  have HB0 := dk hB
  clear hr0 hp hB
  go_enter Try.func185, Try.ntmps185
  go_wp2
  go_loopg [5, 8] l0.length (fun gg _ s8 wr => ∃ kk : Nat, kk ≤ l0.length ∧ l0.length - kk ≤ gg ∧ s8 = .int .i64 kk ∧ Aside0 (Below w.heap.size w wr) ∧ Aside0 (∀ j, j < kk → p (rd_T139 l0 j) = false))
  case atStart => exact ⟨0, Nat.zero_le _, by omega, rfl, ⟨Below.refl _ w⟩, ⟨fun j hj => absurd hj (Nat.not_lt_zero _)⟩⟩
  case round =>
    obtain ⟨kk, hkk, hg, rfl, BW, HA⟩ := hrel
    by_cases hlt : kk < l0.length
    · have hltz : (kk : Int) < (l0.length : Int) := by omega
      obtain ⟨ad, ead, h0, h1, h2⟩ := at_T139 HR0.out kk (by omega) hltz
      subst ead
      have hb1 : Below w0.heap.size w0 wr := below_then HB0.out HW.out BW.out
      have hcall := HP.out wr (rd_T139 l0 kk) BW.out (by unfold rd_T139; simp [hlt])
      replace h0 := pw_cell_below hb1 h0
      replace h1 := pw_cell_below hb1 h1
      replace h2 := pw_cell_below hb1 h2
      simp only [Int.toNat_natCast] at h0 h1 h2
      have HB1 := dk hb1
      clear hb1
      generalize hy : rd_T139 l0 kk = y at h0 h1 h2 hcall
      have B := dk hy
      clear hy
      cases hq : p y with
      | true =>
        rw [hq] at hcall
        have Q := dk hq
        have HC := dk hcall
        clear hq hcall
        go_wp2_with fail
        refine HC.out.mono ?_
        rintro e w' ⟨rfl, hb'⟩
        go_wp2_with fail
        go_ret
        refine ⟨?_, below_step BW.out hb'⟩
        rw [idxI_hit p l0 kk hlt z139 (by have := B.out; unfold rd_T139 at this; simp only [Int.toNat_natCast] at this; rw [this]; exact Q.out) (fun j hj => by have := HA.out j hj; unfold rd_T139 at this; simpa using this)]
        rfl
      | false =>
        rw [hq] at hcall
        have Q := dk hq
        have HC := dk hcall
        clear hq hcall
        go_wp2_with fail
        refine HC.out.mono ?_
        rintro e w' ⟨rfl, hb'⟩
        go_wp2_with fail
        go_roundg (l0.length - (kk + 1))
        case measure => omega
        case rel =>
          refine ⟨kk + 1, by omega, by omega, by go_num, ⟨below_step BW.out hb'⟩, ⟨fun j hj => ?_⟩⟩
          by_cases e : j = kk
          · subst e
            rw [B.out]; exact Q.out
          · exact HA.out j (by omega)
    · have hltz : ¬ (kk : Int) < (l0.length : Int) := by omega
      have hd : decide ((kk : Int) < (l0.length : Int)) = false := by simp; omega
      have hd2 : decide (kk < l0.length) = false := by simp; omega
      have hk := dk (show kk = l0.length by omega)
      clear hlt hltz hg
      go_wp2_with fail
      go_ret
      obtain rfl := hk.out
      refine ⟨?_, BW.out⟩
      rw [idxI_miss p l0 z139 (fun j hj => by have := HA.out j hj; unfold rd_T139 at this; simpa using this)]
      rfl
set_option maxHeartbeats 4000000 in
theorem slices_ContainsFunc_impl_Team_impl_Team.calls (g : Nat) (lb : Array Value) (eg : ∀ args w, (callFunc g args).run Try.prog w = .ok (.enter g args) w) (p : S139 → Bool) (A0 : Option Addr) (c0 n0 : Nat) (l0 : List (S139)) (w0 w : World) (hB : Below w0.heap.size w0 w) (hr0 : Kd.C k139 w0 A0 n0 l0)
    (hp : ∀ (W : World) (x : S139), Below w.heap.size w W → x ∈ l0 → Calls Try.prog g (#[.agg #[.string x.f0, .int .i64 x.f1, .int .i64 x.f2]] ++ lb) W fun e w' => e = .returned (.bool (p x)) ∧ Below W.heap.size W w') :
    Calls Try.prog 161 #[.slice A0 n0 c0, .func (.func g) #[] lb] w fun e w' => e = .returned (.bool (l0.any p)) ∧ Below w.heap.size w w' := by
  rw [← idxI_any p l0]
  have HC := dk (slices_IndexFunc_impl_Team_impl_Team.calls g lb eg p A0 c0 n0 l0 w0 w hB hr0 hp)
  clear hr0 hp hB eg
  generalize hy : idxI p l0 = y at HC
  have HY := dk hy
  clear hy
  go_enter Try.func161, Try.ntmps161
  go_wp2_with fail
  refine HC.out.mono ?_
  rintro e w' ⟨rfl, hb'⟩
  go_wp2_with fail
  go_ret
  exact ⟨rfl, hb'⟩
def withinB (a lo hi : Int) : Bool := decide (lo ≤ a) && decide (a ≤ hi)
theorem within_eq (a lo hi : Int) : impl_within.f a lo hi = some (withinB a lo hi) := by
  unfold impl_within.f withinB
  by_cases h : lo ≤ a <;> simp [h]
def nameAt (i c : Int) : Bool := (decide (97 ≤ c) && decide (c ≤ 122)) || (!(decide (i = 0)) && decide (48 ≤ c) && decide (c ≤ 57))
def nameFrom (s : ByteArray) (i : Nat) : Bool := (List.range (s.size - i)).all fun j => nameAt (i + j : Nat) (bt s ((i + j : Nat) : Int))
def isNameB (s : ByteArray) : Bool := nameFrom s 0 && withinB s.size 1 8
theorem nameFrom_end (s : ByteArray) (i : Nat) (h : s.size ≤ i) : nameFrom s i = true := by
  unfold nameFrom; rw [show s.size - i = 0 by omega]; rfl
theorem nameFrom_step (s : ByteArray) (i : Nat) (h : i < s.size) : nameFrom s i = (nameAt i (bt s i) && nameFrom s (i + 1)) := by
  unfold nameFrom
  obtain ⟨d, hd⟩ : ∃ d, s.size - i = d + 1 := ⟨s.size - i - 1, by omega⟩
  rw [hd, show s.size - (i + 1) = d by omega, List.range_succ_eq_map, List.all_cons, List.all_map]
  congr 1
  congr 1
  funext j
  simp only [Function.comp, Nat.succ_eq_add_one]
  rw [show i + (j + 1) = i + 1 + j by omega]
theorem isName_loop (s : ByteArray) (hs : s.size ≤ 4611686018427387904) (d : Nat) : ∀ (k i : Nat), s.size - i = d → i ≤ s.size → d < k → impl_IsName.l0 k s s.size i = some (nameFrom s i && withinB s.size 1 8) := by
  induction d with
  | zero =>
    intro k i hd hi hk
    obtain ⟨k, rfl⟩ : ∃ m, k = m + 1 := ⟨k - 1, by omega⟩
    simp only [impl_IsName.l0]
    rw [if_neg (by omega), within_eq, nameFrom_end s i (by omega)]
    simp
  | succ d ih =>
    intro k i hd hi hk
    obtain ⟨k, rfl⟩ : ∃ m, k = m + 1 := ⟨k - 1, by omega⟩
    have hlt : i < s.size := by omega
    have hw : wrap64 ((i : Int) + 1) = ((i + 1 : Nat) : Int) := by unfold wrap64; omega
    have h := ih k (i + 1) (by omega) (by omega) (by omega)
    simp only [impl_IsName.l0]
    rw [if_pos (show (i : Int) < s.size by omega), if_pos (show 0 ≤ (i : Int) by omega), if_pos (show (i : Int) < s.size by omega), hw, h, nameFrom_step s i hlt]
    unfold nameAt
    generalize bt s i = c
    rw [Bool.and_assoc]
    generalize (nameFrom s (i + 1) && withinB s.size 1 8) = z
    grind
theorem isName_eq (s : ByteArray) (hs : s.size ≤ 4611686018427387904) (k : Nat) (hk : s.size < k) : impl_IsName.f k s = some (isNameB s) := by
  unfold impl_IsName.f
  have := isName_loop s hs s.size k 0 (by omega) (by omega) hk
  simpa [isNameB] using this
def teamOkB (t : S139) : Bool := isNameB t.f0 && withinB t.f1 0 5 && withinB t.f2 1 8
theorem teamOk_eq (t : S139) (hs : t.f0.size ≤ 4611686018427387904) (k : Nat) (hk : t.f0.size < k) : impl_TeamOk.f k t.f0 t.f1 t.f2 = some (teamOkB t) := by
  unfold impl_TeamOk.f teamOkB
  rw [isName_eq _ hs k hk]
  simp only [Option.bind_some, within_eq]
  cases isNameB t.f0 <;> cases withinB t.f1 0 5 <;> simp
def teamClash (t x : S139) : Bool := (x.f0.toList == t.f0.toList) || (x.f2 == t.f2)
def fieldFrom : List (S139) → List (S139) → Bool
  | _, [] => true
  | pre, t :: l => teamOkB t && !pre.any (teamClash t) && fieldFrom (pre ++ [t]) l
def fieldOkB (l : List (S139)) : Bool := fieldFrom [] l && withinB l.length 2 8
def impl_FieldOk.f (l0 : List (S139)) : Option Bool := if l0.all (fun t => decide (t.f0.size ≤ 4611686018427387904)) then some (fieldOkB l0) else none
set_option maxHeartbeats 4000000 in
theorem impl_FieldOk_1.calls (gb : Nat) (t x : S139) (W : World) (hb : W.heap[gb]? = some (.cells #[.string t.f0, .int .i64 t.f1, .int .i64 t.f2] 139 (0, 0))) :
    Calls Try.prog 162 #[.agg #[.string x.f0, .int .i64 x.f1, .int .i64 x.f2], .pointer (some ⟨gb, 0, none⟩)] W fun e w' => e = .returned (.bool (teamClash t x)) ∧ Below W.heap.size W w' := by
  have h0 : W.cell? ⟨gb, 0, none⟩ = some (.string t.f0) := (blk_cell hb 0).trans rfl
  have h2 : W.cell? ⟨gb, 2, none⟩ = some (.int .i64 t.f2) := (blk_cell hb 2).trans rfl
  have hlt : gb < W.heap.size := blk_lt hb
  clear hb
  have hT : ∀ b, teamClash t x = b → ((x.f0.toList == t.f0.toList) || (x.f2 == t.f2)) = b := fun b h => h
  generalize teamClash t x = b at hT
  have HT := dk (hT b rfl)
  clear hT
  cases h3 : x.f0.toList == t.f0.toList with
  | true =>
    have hb : b = true := by rw [← HT.out, h3]; rfl
    subst hb
    clear HT
    go_enter Try.func162, Try.ntmps162
    go_wp2
    go_ret
    exact ⟨rfl, below_alloc (Below.refl _ _) _⟩
  | false =>
    have hb : b = (x.f2 == t.f2) := by rw [← HT.out, h3]; rfl
    subst hb
    clear HT
    go_enter Try.func162, Try.ntmps162
    go_wp2
    go_ret
    exact ⟨rfl, below_alloc (Below.refl _ _) _⟩
set_option maxHeartbeats 4000000 in
theorem impl_FieldOk.calls (A0 : Option Addr) (c0 : Nat) (l0 : List (S139)) (r : Bool) (w : World) (hr0 : Kd.C k139 w A0 l0.length l0) (hc0 : l0.length ≤ c0) (h : impl_FieldOk.f l0 = some r) :
    Calls Try.prog 122 #[.slice A0 l0.length c0] w fun e w' => e = .returned (.bool r) ∧ Below w.heap.size w w' := by
  unfold impl_FieldOk.f at h
  by_cases hz : l0.all (fun t => decide (t.f0.size ≤ 4611686018427387904)) = true
  · rw [if_pos hz] at h
    have HZ := dk hz
    clear hz
    have HR := dk (Option.some.inj h)
    clear h
    have hm : l0.length ≤ 9223372036854775807 := hr0.2.1
    have HR0 := dk hr0
    have HC0 := dk hc0
    clear hr0 hc0
    have eg := my_enters Try.func162 (by kernel_rfl) rfl
    go_enter Try.func122, Try.ntmps122
    go_wp2
    go_loopg [3, 7] l0.length (fun gg _ s7 wr => ∃ kk : Nat, kk ≤ l0.length ∧ l0.length - kk ≤ gg ∧ s7 = .int .i64 kk ∧ Aside0 (Below w.heap.size w wr) ∧ Aside0 (fieldFrom (l0.take kk) (l0.drop kk) = fieldFrom [] l0))
    case atStart => exact ⟨0, Nat.zero_le _, by omega, rfl, ⟨Below.refl _ w⟩, ⟨by simp⟩⟩
    case round =>
      obtain ⟨kk, hkk, hg, rfl, BW, HA⟩ := hrel
      by_cases hlt : kk < l0.length
      · have hltz : (kk : Int) < (l0.length : Int) := by omega
        obtain ⟨ad, ead, h0, h1, h2⟩ := at_T139 HR0.out kk (by omega) hltz
        subst ead
        replace h0 := pw_cell_below BW.out h0
        replace h1 := pw_cell_below BW.out h1
        replace h2 := pw_cell_below BW.out h2
        simp only [Int.toNat_natCast] at h0 h1 h2
        have hd : l0.drop kk = rd_T139 l0 kk :: l0.drop (kk + 1) := by
          unfold rd_T139
          simp only [Int.toNat_natCast]
          rw [List.drop_eq_getElem_cons hlt]
          simp [hlt]
        have ht : l0.take kk ++ [rd_T139 l0 kk] = l0.take (kk + 1) := by
          unfold rd_T139
          simp only [Int.toNat_natCast]
          rw [List.take_succ_eq_append_getElem hlt]
          simp [hlt]
        have hsz : (rd_T139 l0 kk).f0.size ≤ 4611686018427387904 := by
          have := List.all_eq_true.mp HZ.out (rd_T139 l0 kk) (by unfold rd_T139; simp [hlt])
          simpa using this
        have HA1 := dk (show fieldFrom (l0.take kk) (l0.drop kk) = (teamOkB (rd_T139 l0 kk) && !(l0.take kk).any (teamClash (rd_T139 l0 kk)) && fieldFrom (l0.take (kk + 1)) (l0.drop (kk + 1))) by rw [hd, fieldFrom, ht])
        have HT := dk (teamOk_eq (rd_T139 l0 kk) hsz ((rd_T139 l0 kk).f0.size + 1) (by omega))
        clear hd ht hsz
        generalize rd_T139 l0 kk = t at h0 h1 h2 HA1 HT
        have hkc : kk ≤ c0 := by have := HC0.out; omega
        go_wp2_with fail
        refine (impl_TeamOk.calls _ _ _ _ _ _ HT.out).mono ?_
        rintro e w1 ⟨rfl, hb1⟩
        have hbox := hb1.block wr.heap.size (by simp)
        have hbx := my_blk_new wr (Obj.cells #[Value.string t.f0, Value.int IntKind.i64 t.f1, Value.int IntKind.i64 t.f2] 139 (0, 0))
        have HBX := dk (hbox.trans hbx)
        have HB1 := dk (below_step (below_alloc (Below.refl wr.heap.size wr) _) hb1)
        clear hbox hbx hb1
        cases hq : teamOkB t with
        | false =>
          have HQ := dk hq
          have HF : Aside0 (fieldOkB l0 = false) := ⟨by unfold fieldOkB; rw [← HA.out, HA1.out, hq]; simp⟩
          clear hq
          go_wp2_with fail
          go_ret
          exact ⟨by rw [← HR.out, HF.out]; rfl, below_step BW.out HB1.out⟩
        | true =>
          have HQ := dk hq
          clear hq
          have HG := dk eg
          clear eg
          go_wp2_with fail
          refine ((slices_ContainsFunc_impl_Team_impl_Team.calls 162 #[.pointer (some ⟨wr.heap.size, 0, none⟩)] HG.out (teamClash t) (some ad) c0 kk (l0.take kk) w w1 (below_step BW.out HB1.out) (Kd.C_take' HR0.out kk hkk) (fun W x hW _ => impl_FieldOk_1.calls wr.heap.size t x W ((hW.block _ (blk_lt HBX.out)).trans HBX.out))).mono ?_)
          rintro e w2 ⟨rfl, hb2⟩
          have HB2 := dk (below_step HB1.out hb2)
          clear hb2
          cases hc : (l0.take kk).any (teamClash t) with
          | true =>
            have HF : Aside0 (fieldOkB l0 = false) := ⟨by unfold fieldOkB; rw [← HA.out, HA1.out, hc]; simp⟩
            clear hc
            go_wp2_with fail
            go_ret
            exact ⟨by rw [← HR.out, HF.out]; rfl, below_step BW.out HB2.out⟩
          | false =>
            have HA2 : Aside0 (fieldFrom (l0.take (kk + 1)) (l0.drop (kk + 1)) = fieldFrom [] l0) := ⟨by rw [← HA.out, HA1.out, hc, HQ.out]; simp⟩
            have HE := dk HG.out
            clear hc
            go_wp2_with fail
            go_roundg (l0.length - (kk + 1))
            case measure => omega
            case rel => exact ⟨kk + 1, by omega, by omega, by go_num, ⟨below_step BW.out HB2.out⟩, HA2⟩
      · have hd : decide ((kk : Int) < (l0.length : Int)) = false := by simp; omega
        have hd2 : decide (kk < l0.length) = false := by simp; omega
        have hk := dk (show kk = l0.length by omega)
        clear hlt hg
        have HW := dk (within_eq l0.length 2 8)
        go_wp2_with fail
        refine (impl_within.calls _ _ _ _ _ HW.out).mono ?_
        rintro e w' ⟨rfl, ⟨nd, rfl⟩⟩
        go_wp2_with fail
        go_ret
        refine ⟨?_, pw_below_drewN BW.out _⟩
        have h1 := HA.out
        rw [hk.out, List.drop_length, fieldFrom] at h1
        rw [← HR.out, fieldOkB, ← h1]
        rfl
  · rw [if_neg hz] at h
    cases h
def impl_isKey.f (a0 : Int) : Option (Bool) := (impl_within.f a0 1 8).bind fun t309 => (some t309)
theorem impl_isKey.calls (a0 : Int) (r : Bool) (w : World) (h : impl_isKey.f a0 = some r) :
  Calls Try.prog 163 #[.int .i64 a0] w fun e w' => e = .returned (.bool r) ∧ Drawn0 w w' := by
 have H : ((impl_within.f a0 1 8).bind fun t309 => (some t309)) = some r := h
 clear h
 replace H := Option.bind_eq_some_iff.mp H
 obtain ⟨t309, A20, H⟩ := H
 try dsimp only at H
 have A2 := dk A20
 clear A20
 obtain rfl := Option.some.inj H
 go_enter Try.func163, Try.ntmps163
 go_wp2_with (first | ((with_reducible refine gcallee_ 128 rfl ?_); refine gl (some 4) Try.func128 #[.int .i64 a0, .int .i64 1, .int .i64 8] ?_; (with_reducible refine (impl_within.calls a0 1 8 t309 _ A2.out).mono ?_); rintro e w' ⟨rfl, ⟨nd, rfl⟩⟩; refine ⟨_, rfl, ?_⟩))
 go_ret
 exact ⟨e2_, by repeat (first | exact Drawn0.refl _ | apply Drawn0.step)⟩
def impl_RulesOk.l0 : Nat → List Int → Int → Int → Int → Int → Int → List Int → Bool → Option (Bool)
 | 0, _, _, _, _, _, _, _, _ => none
 | k + 1, x6, x7, x8, x311000, x311001, x311002, x311003, x311004 => if x8 < x7 then (if 0 ≤ x8 then (if x8 < (x6.length : Int) then ((impl_isKey.f (rd x6 x8)).bind fun t313 => (if t313 = true then (if x8 ≤ (x311003.length : Int) then ((slices_Contains_int_int.f k (x311003.take (x8 : Int).toNat) (rd x6 x8)).bind fun t315 => (if t315 = true then (some false) else (impl_RulesOk.l0 k x6 x7 (wrap64 (x8 + 1)) x311000 x311001 x311002 x311003 x311004))) else (none)) else (some false))) else (none)) else (none)) else (if 0 ≤ x311002 then (if x311002 ≤ x311001 then (if x311001 ≤ x311000 then (if x311000 ≤ 10 then ((impl_within.f (x311003.length : Int) 1 8).bind fun t311 => (some t311)) else (some false)) else (some false)) else (some false)) else (some false))
def impl_RulesOk.f (k : Nat) (a0_0 : Int) (a0_1 : Int) (a0_2 : Int) (l0_3 : List Int) (a0_4 : Bool) : Option (Bool) := impl_RulesOk.l0 k l0_3 (l0_3.length : Int) 0 a0_0 a0_1 a0_2 l0_3 a0_4
theorem impl_RulesOk.calls (k : Nat) (a0_0 : Int) (a0_1 : Int) (a0_2 : Int) (A0_3 : Option Addr) (c0_3 : Nat) (l0_3 : List Int) (a0_4 : Bool) (r : Bool) (w : World) (hr0_3 : Kd.C (Kd.int .i64) w A0_3 l0_3.length l0_3) (hc0_3 : l0_3.length ≤ c0_3) (h : impl_RulesOk.f k a0_0 a0_1 a0_2 l0_3 a0_4 = some r) :
  Calls Try.prog 123 #[.agg #[.int .i64 a0_0, .int .i64 a0_1, .int .i64 a0_2, .slice A0_3 l0_3.length c0_3, .bool a0_4]] w fun e w' => e = .returned (.bool r) ∧ Below w.heap.size w w' := by
 have hu33 := Try.underlying33
 have HR0_3 := dk hr0_3
 have HC0_3 := dk hc0_3
 clear hr0_3 hc0_3
 have HB := hb0 w
 have H : (impl_RulesOk.l0 k l0_3 (l0_3.length : Int) 0 a0_0 a0_1 a0_2 l0_3 a0_4) = some r := h
 clear h
 have H' := dk H
 clear H
 go_enter Try.func123, Try.ntmps123
 go_wp2_with (first | ((with_reducible refine gdst_ 1 rfl ?_); (try (refine gate_guard (by rfl) ?_; dsimp only)); refine bx (N := 1) (cs := #[.int .i64 a0_0, .int .i64 a0_1, .int .i64 a0_2, .slice A0_3 l0_3.length c0_3, .bool a0_4]) (t := 33) ?_; intro gb310 hg w2 hbox hb; have BK310 := dk (hbox); have GW310 := gs hg HB; have GE310 := gs hg HB; replace HB := hs_ HB hb; clear hb hbox hg; have ⟨z3_0, z3_1, z3_2, z3_3, z3_4, v3_0, v3_1, v3_2, v3_3, v3_4⟩ := rz5 BK310))
 go_loopg [8] k (fun kq v8 w' => ∃ (x8_1 : Int), v8 = .int .i64 x8_1 ∧ Aside0 (impl_RulesOk.l0 kq l0_3 (l0_3.length : Int) x8_1 a0_0 a0_1 a0_2 l0_3 a0_4 = some r) ∧ Aside0 (kq ≤ k) ∧ Aside0 (w'.heap[gb310]? = some (.cells #[.int .i64 a0_0, .int .i64 a0_1, .int .i64 a0_2, (.slice A0_3 l0_3.length c0_3), .bool a0_4] 33 (0, 0))) ∧ Aside0 (Below w.heap.size w w'))
 case atStart => exact ⟨(0), e2_, H', ⟨Nat.le_refl _⟩, ⟨bk BK310⟩, ⟨bb HB⟩⟩
 case round =>
  clear H'
  obtain ⟨x8_1, rfl, HA, HK1, BK310, HB⟩ := hrel
  cases gk with
  | zero => exact absurd HA.out (by simp [impl_RulesOk.l0])
  | succ k1 =>
   have H := HA.out
   clear HA
   simp only [impl_RulesOk.l0] at H
   by_cases c4 : x8_1 < (l0_3.length : Int)
   ·rw [if_pos c4] at H
    have c4b0 := decide_eq_true c4
    clear c4
    by_cases c5 : 0 ≤ x8_1
    ·rw [if_pos c5] at H
     have c5b0 := decide_eq_true c5
     clear c5
     by_cases c6 : x8_1 < (l0_3.length : Int)
     ·rw [if_pos c6] at H
      have c6b0 := decide_eq_true c6
      clear c6
      replace H := Option.bind_eq_some_iff.mp H
      obtain ⟨t313, A70, H⟩ := H
      try dsimp only at H
      have A7 := dk A70
      clear A70
      by_cases c8 : t313 = true
      ·subst c8
       rw [if_pos rfl] at H
       have c9b0 := eq_true (oa : 0 ≤ x8_1)
       by_cases c10 : x8_1 ≤ (l0_3.length : Int)
       ·rw [if_pos c10] at H
        have c10b0 := eq_true c10
        have c10b1 := decide_eq_true c10
        clear c10
        replace H := Option.bind_eq_some_iff.mp H
        obtain ⟨t315, A110, H⟩ := H
        try dsimp only at H
        have A11 := dk A110
        clear A110
        by_cases c12 : t315 = true
        ·subst c12
         rw [if_pos rfl] at H
         obtain rfl := Option.some.inj H
         have p312 : 0 ≤ (x8_1 : Int) := oa
         have q312 : x8_1 < (l0_3.length : Int) := oa
         obtain ⟨ad312, e312, hx312_0⟩ := Kd.at_int HR0_3.out x8_1 p312 q312
         cases e312
         replace hx312_0 := hc HB hx312_0
         replace p312 := eq_true p312
         replace q312 := eq_true q312
         go_wp2_with (first | ((with_reducible refine gcallee_ 163 rfl ?_); refine gl (some 14) Try.func163 #[.int .i64 (rd l0_3 x8_1)] ?_; (with_reducible refine (impl_isKey.calls (rd l0_3 x8_1) true _ A7.out).mono ?_); rintro e w' ⟨rfl, ⟨nd, rfl⟩⟩; refine ⟨_, rfl, ?_⟩; have ⟨z13_0, z13_1, z13_2, z13_3, z13_4, v13_0, v13_1, v13_2, v13_3, v13_4⟩ := rz5 BK310; obtain ⟨i014, hi014, _, hsz14, _⟩ := info_parts info3; obtain ⟨hcut14, hA14, hC14⟩ := print_take_of (P := Try.prog) (Value.int .i64) 0 23 3 .i64 Try.underlying23 hi014 hsz14 (some ad312) c0_3 l0_3 x8_1 (oa) (oa) HC0_3.out; have HR314 := dk (Kd.C_of_reads (h1 := fun _ => rfl) (hA14 _ (Kd.reads_of_C HR0_3.out))); have HC314 := dk hC14; clear hA14 hC14 hi014 hsz14) | (go_at_call 95; refine calls_of_args (args' := #[.slice (some ad312) (l0_3.take (x8_1 : Int).toNat).length c0_3, .int .i64 (rd l0_3 x8_1)]) (by first | (rw [show (l0_3.take (x8_1 : Int).toNat).length = x8_1.toNat from (by rw [List.length_take]; have h_ : (x8_1 : Int) ≤ (l0_3.length : Int) := oa; omega)] <;> rfl) | rfl) ?_; (with_reducible refine (slices_Contains_int_int.calls k1 _ _ (l0_3.take (x8_1 : Int).toNat) (rd l0_3 x8_1) true _ ?side1 ?side2 A11.out).mono ?_); (case side1 => repeat (first | exact (Kd.C_below HR314.out (bb HB)) | (with_reducible refine Kd.C_alloc ?_ _) | (with_reducible refine Kd.C_drewN ?_ _) | (with_reducible refine Kd.C_drew ?_))); (case side2 => exact HC314.out); rintro e w' ⟨rfl, ⟨nd, rfl⟩⟩))
         go_ret
         exact ⟨ee, bb HB⟩
        ·replace c12 := Bool.eq_false_iff.mpr c12
         subst c12
         rw [if_neg (show ¬ (false = true) by decide)] at H
         have H' := dk H
         clear H
         have p312 : 0 ≤ (x8_1 : Int) := oa
         have q312 : x8_1 < (l0_3.length : Int) := oa
         obtain ⟨ad312, e312, hx312_0⟩ := Kd.at_int HR0_3.out x8_1 p312 q312
         cases e312
         replace hx312_0 := hc HB hx312_0
         replace p312 := eq_true p312
         replace q312 := eq_true q312
         go_wp2_with (first | ((with_reducible refine gcallee_ 163 rfl ?_); refine gl (some 14) Try.func163 #[.int .i64 (rd l0_3 x8_1)] ?_; (with_reducible refine (impl_isKey.calls (rd l0_3 x8_1) true _ A7.out).mono ?_); rintro e w' ⟨rfl, ⟨nd, rfl⟩⟩; refine ⟨_, rfl, ?_⟩; have ⟨z15_0, z15_1, z15_2, z15_3, z15_4, v15_0, v15_1, v15_2, v15_3, v15_4⟩ := rz5 BK310; obtain ⟨i016, hi016, _, hsz16, _⟩ := info_parts info3; obtain ⟨hcut16, hA16, hC16⟩ := print_take_of (P := Try.prog) (Value.int .i64) 0 23 3 .i64 Try.underlying23 hi016 hsz16 (some ad312) c0_3 l0_3 x8_1 (oa) (oa) HC0_3.out; have HR314 := dk (Kd.C_of_reads (h1 := fun _ => rfl) (hA16 _ (Kd.reads_of_C HR0_3.out))); have HC314 := dk hC16; clear hA16 hC16 hi016 hsz16) | (go_at_call 95; refine calls_of_args (args' := #[.slice (some ad312) (l0_3.take (x8_1 : Int).toNat).length c0_3, .int .i64 (rd l0_3 x8_1)]) (by first | (rw [show (l0_3.take (x8_1 : Int).toNat).length = x8_1.toNat from (by rw [List.length_take]; have h_ : (x8_1 : Int) ≤ (l0_3.length : Int) := oa; omega)] <;> rfl) | rfl) ?_; (with_reducible refine (slices_Contains_int_int.calls k1 _ _ (l0_3.take (x8_1 : Int).toNat) (rd l0_3 x8_1) false _ ?side1 ?side2 A11.out).mono ?_); (case side1 => repeat (first | exact (Kd.C_below HR314.out (bb HB)) | (with_reducible refine Kd.C_alloc ?_ _) | (with_reducible refine Kd.C_drewN ?_ _) | (with_reducible refine Kd.C_drew ?_))); (case side2 => exact HC314.out); rintro e w' ⟨rfl, ⟨nd, rfl⟩⟩))
         go_roundg k1
         case measure => have := HK1.out; omega
         case rel => exact ⟨(wrap64 (x8_1 + 1)), e2_, H', ⟨by have := HK1.out; omega⟩, ⟨bk BK310⟩, ⟨bb HB⟩⟩
       ·rw [if_neg c10] at H
        exact absurd H (by simp)
      ·replace c8 := Bool.eq_false_iff.mpr c8
       subst c8
       rw [if_neg (show ¬ (false = true) by decide)] at H
       obtain rfl := Option.some.inj H
       have p312 : 0 ≤ (x8_1 : Int) := oa
       have q312 : x8_1 < (l0_3.length : Int) := oa
       obtain ⟨ad312, e312, hx312_0⟩ := Kd.at_int HR0_3.out x8_1 p312 q312
       cases e312
       replace hx312_0 := hc HB hx312_0
       replace p312 := eq_true p312
       replace q312 := eq_true q312
       go_wp2_with (first | ((with_reducible refine gcallee_ 163 rfl ?_); refine gl (some 14) Try.func163 #[.int .i64 (rd l0_3 x8_1)] ?_; (with_reducible refine (impl_isKey.calls (rd l0_3 x8_1) false _ A7.out).mono ?_); rintro e w' ⟨rfl, ⟨nd, rfl⟩⟩; refine ⟨_, rfl, ?_⟩))
       go_ret
       exact ⟨ee, bb HB⟩
     ·rw [if_neg c6] at H
      exact absurd H (by simp)
    ·rw [if_neg c5] at H
     exact absurd H (by simp)
   ·rw [if_neg c4] at H
    have c4b0 := decide_eq_false c4
    clear c4
    by_cases c17 : 0 ≤ a0_2
    ·rw [if_pos c17] at H
     have c17b0 := decide_eq_true c17
     clear c17
     by_cases c18 : a0_2 ≤ a0_1
     ·rw [if_pos c18] at H
      have c18b0 := decide_eq_true c18
      clear c18
      by_cases c19 : a0_1 ≤ a0_0
      ·rw [if_pos c19] at H
       have c19b0 := decide_eq_true c19
       clear c19
       by_cases c20 : a0_0 ≤ 10
       ·rw [if_pos c20] at H
        have c20b0 := decide_eq_true c20
        clear c20
        replace H := Option.bind_eq_some_iff.mp H
        obtain ⟨t311, A210, H⟩ := H
        try dsimp only at H
        have A21 := dk A210
        clear A210
        obtain rfl := Option.some.inj H
        have ⟨z22_0, z22_1, z22_2, z22_3, z22_4, v22_0, v22_1, v22_2, v22_3, v22_4⟩ := rz5 BK310
        go_wp2_with (first | (go_at_call 128; (with_reducible refine (impl_within.calls (l0_3.length : Int) 1 8 t311 _ A21.out).mono ?_); rintro e w' ⟨rfl, ⟨nd, rfl⟩⟩))
        go_ret
        exact ⟨ee, bb HB⟩
       ·rw [if_neg c20] at H
        have c20b0 := decide_eq_false c20
        clear c20
        obtain rfl := Option.some.inj H
        have ⟨z23_0, z23_1, z23_2, z23_3, z23_4, v23_0, v23_1, v23_2, v23_3, v23_4⟩ := rz5 BK310
        go_wp2
        go_ret
        exact ⟨ee, bb HB⟩
      ·rw [if_neg c19] at H
       have c19b0 := decide_eq_false c19
       clear c19
       obtain rfl := Option.some.inj H
       have ⟨z24_0, z24_1, z24_2, z24_3, z24_4, v24_0, v24_1, v24_2, v24_3, v24_4⟩ := rz5 BK310
       go_wp2
       go_ret
       exact ⟨ee, bb HB⟩
     ·rw [if_neg c18] at H
      have c18b0 := decide_eq_false c18
      clear c18
      obtain rfl := Option.some.inj H
      have ⟨z25_0, z25_1, z25_2, z25_3, z25_4, v25_0, v25_1, v25_2, v25_3, v25_4⟩ := rz5 BK310
      go_wp2
      go_ret
      exact ⟨ee, bb HB⟩
    ·rw [if_neg c17] at H
     have c17b0 := decide_eq_false c17
     clear c17
     obtain rfl := Option.some.inj H
     have ⟨z26_0, z26_1, z26_2, z26_3, z26_4, v26_0, v26_1, v26_2, v26_3, v26_4⟩ := rz5 BK310
     go_wp2
     go_ret
     exact ⟨ee, bb HB⟩
def impl_GameOk.j0 : Nat → Int → Int → Int → Int → Int → Int → Int → Option (Bool)
 | 0, _, _, _, _, _, _, _ => none
 | k + 1, x0, x5, x317000, x317001, x317002, x317003, x317004 => (impl_within.f x0 2 8).bind fun t317 => (if t317 = true then (if x317000 = x317001 then (some false) else ((impl_within.f x317000 0 (wrap64 (x0 - 1))).bind fun t318 => (if t318 = true then ((impl_within.f x317001 0 (wrap64 (x0 - 1))).bind fun t319 => (if t319 = true then ((impl_within.f x317004 0 4).bind fun t320 => (if t320 = true then ((impl_within.f x317002 0 x5).bind fun t321 => (if t321 = true then ((impl_within.f x317003 0 x5).bind fun t322 => (some t322)) else (some false))) else (some false))) else (some false))) else (some false)))) else (some false))
def impl_GameOk.f (k : Nat) (a0 : Int) (a1_0 : Int) (a1_1 : Int) (a1_2 : Int) (a1_3 : Int) (a1_4 : Int) : Option (Bool) := if a1_4 = 1 then (impl_GameOk.j0 k a0 99 a1_0 a1_1 a1_2 a1_3 a1_4) else (impl_GameOk.j0 k a0 0 a1_0 a1_1 a1_2 a1_3 a1_4)
theorem impl_GameOk.calls (k : Nat) (a0 : Int) (a1_0 : Int) (a1_1 : Int) (a1_2 : Int) (a1_3 : Int) (a1_4 : Int) (r : Bool) (w : World) (h : impl_GameOk.f k a0 a1_0 a1_1 a1_2 a1_3 a1_4 = some r) :
  Calls Try.prog 164 #[.int .i64 a0, .agg #[.int .i64 a1_0, .int .i64 a1_1, .int .i64 a1_2, .int .i64 a1_3, .int .i64 a1_4]] w fun e w' => e = .returned (.bool r) ∧ Below w.heap.size w w' := by
 have hu95 := Try.underlying95
 have HB := hb0 w
 have H : (if a1_4 = 1 then (impl_GameOk.j0 k a0 99 a1_0 a1_1 a1_2 a1_3 a1_4) else (impl_GameOk.j0 k a0 0 a1_0 a1_1 a1_2 a1_3 a1_4)) = some r := h
 clear h
 have HC3 := dk H
 clear H
 go_enter Try.func164, Try.ntmps164
 go_upto_if 8 with (first | ((with_reducible refine gdst_ 3 rfl ?_); refine bx (N := 3) (cs := #[.int .i64 a1_0, .int .i64 a1_1, .int .i64 a1_2, .int .i64 a1_3, .int .i64 a1_4]) (t := 95) ?_; intro gb316 hg w4 hbox hb; have BK316 := dk (hbox); have GW316 := gs hg HB; have GE316 := gs hg HB; replace HB := hs_ HB hb; clear hb hbox hg; have ⟨z5_0, z5_1, z5_2, z5_3, z5_4, v5_0, v5_1, v5_2, v5_3, v5_4⟩ := rz5 BK316))
 (try simp only [Act.put, List.setIfInBounds_toArray, List.set_cons_zero, List.set_cons_succ])
 go_cut [5] (fun v5 wc => ∃ (kq : Nat) (x5_2 : Int), v5 = .int .i64 x5_2 ∧ Aside0 (impl_GameOk.j0 kq a0 x5_2 a1_0 a1_1 a1_2 a1_3 a1_4 = some r) ∧ Aside0 (kq ≤ k) ∧ Aside0 (wc.heap[gb316]? = some (.cells #[.int .i64 a1_0, .int .i64 a1_1, .int .i64 a1_2, .int .i64 a1_3, .int .i64 a1_4] 95 (0, 0))) ∧ Aside0 (Below w.heap.size w wc))
 case first =>
  have H := HC3.out
  clear HC3
  by_cases c6 : a1_4 = 1
  ·rw [if_pos c6] at H
   have c6b0 := beq_iff_eq.mpr c6
   have c6b1 := bne_eq_false_iff_eq.mpr c6
   clear c6
   (first | rw [c6b0] | rw [c6b1] | (simp only [i64_w, i32_w]; rw [c6b0]) | skip)
   have H' := dk H
   clear H
   go_wp2
   go_meet
   case rel => exact ⟨_, (99), e2_, H', ⟨by first | omega | exact Nat.le_refl _⟩, ⟨bk BK316⟩, ⟨bb HB⟩⟩
  ·rw [if_neg c6] at H
   have c6b0 := beq_eq_false_iff_ne.mpr c6
   have c6b1 := bne_iff_ne.mpr c6
   (first | rw [c6b0] | rw [c6b1] | (simp only [i64_w, i32_w]; rw [c6b0]) | skip)
   have H' := dk H
   clear H
   go_wp2
   go_meet
   case rel => exact ⟨_, (0), e2_, H', ⟨by first | omega | exact Nat.le_refl _⟩, ⟨bk BK316⟩, ⟨bb HB⟩⟩
 case rest =>
  clear HC3
  obtain ⟨kq, x5_2, rfl, HA, HJ2, BK316, HB⟩ := hcut
  cases kq with
  | zero => exact absurd HA.out (by simp [impl_GameOk.j0])
  | succ kj2 =>
   have H := HA.out
   clear HA
   simp only [impl_GameOk.j0] at H
   replace H := Option.bind_eq_some_iff.mp H
   obtain ⟨t317, A70, H⟩ := H
   try dsimp only at H
   have A7 := dk A70
   clear A70
   by_cases c8 : t317 = true
   ·subst c8
    rw [if_pos rfl] at H
    by_cases c9 : a1_0 = a1_1
    ·rw [if_pos c9] at H
     have c9b0 := beq_iff_eq.mpr c9
     have c9b1 := bne_eq_false_iff_eq.mpr c9
     clear c9
     obtain rfl := Option.some.inj H
     go_wp2_with (first | ((with_reducible refine gcallee_ 128 rfl ?_); refine gl (some 10) Try.func128 #[.int .i64 a0, .int .i64 2, .int .i64 8] ?_; (with_reducible refine (impl_within.calls a0 2 8 true _ A7.out).mono ?_); rintro e w' ⟨rfl, ⟨nd, rfl⟩⟩; refine ⟨_, rfl, ?_⟩; have ⟨z10_0, z10_1, z10_2, z10_3, z10_4, v10_0, v10_1, v10_2, v10_3, v10_4⟩ := rz5 BK316))
     go_ret
     exact ⟨ee, bb HB⟩
    ·rw [if_neg c9] at H
     have c9b0 := beq_eq_false_iff_ne.mpr c9
     have c9b1 := bne_iff_ne.mpr c9
     replace H := Option.bind_eq_some_iff.mp H
     obtain ⟨t318, A110, H⟩ := H
     try dsimp only at H
     have A11 := dk A110
     clear A110
     by_cases c12 : t318 = true
     ·subst c12
      rw [if_pos rfl] at H
      replace H := Option.bind_eq_some_iff.mp H
      obtain ⟨t319, A130, H⟩ := H
      try dsimp only at H
      have A13 := dk A130
      clear A130
      by_cases c14 : t319 = true
      ·subst c14
       rw [if_pos rfl] at H
       replace H := Option.bind_eq_some_iff.mp H
       obtain ⟨t320, A150, H⟩ := H
       try dsimp only at H
       have A15 := dk A150
       clear A150
       by_cases c16 : t320 = true
       ·subst c16
        rw [if_pos rfl] at H
        replace H := Option.bind_eq_some_iff.mp H
        obtain ⟨t321, A170, H⟩ := H
        try dsimp only at H
        have A17 := dk A170
        clear A170
        by_cases c18 : t321 = true
        ·subst c18
         rw [if_pos rfl] at H
         replace H := Option.bind_eq_some_iff.mp H
         obtain ⟨t322, A190, H⟩ := H
         try dsimp only at H
         have A19 := dk A190
         clear A190
         obtain rfl := Option.some.inj H
         go_wp2_with (first | ((with_reducible refine gcallee_ 128 rfl ?_); refine gl (some 10) Try.func128 #[.int .i64 a0, .int .i64 2, .int .i64 8] ?_; (with_reducible refine (impl_within.calls a0 2 8 true _ A7.out).mono ?_); rintro e w' ⟨rfl, ⟨nd, rfl⟩⟩; refine ⟨_, rfl, ?_⟩; have ⟨z20_0, z20_1, z20_2, z20_3, z20_4, v20_0, v20_1, v20_2, v20_3, v20_4⟩ := rz5 BK316) | (go_at_call 128; (with_reducible refine (impl_within.calls a1_0 0 (wrap64 (a0 - 1)) true _ A11.out).mono ?_); rintro e w' ⟨rfl, ⟨nd, rfl⟩⟩) | (go_at_call 128; (with_reducible refine (impl_within.calls a1_1 0 (wrap64 (a0 - 1)) true _ A13.out).mono ?_); rintro e w' ⟨rfl, ⟨nd, rfl⟩⟩) | (go_at_call 128; (with_reducible refine (impl_within.calls a1_4 0 4 true _ A15.out).mono ?_); rintro e w' ⟨rfl, ⟨nd, rfl⟩⟩) | (go_at_call 128; (with_reducible refine (impl_within.calls a1_2 0 x5_2 true _ A17.out).mono ?_); rintro e w' ⟨rfl, ⟨nd, rfl⟩⟩) | (go_at_call 128; (with_reducible refine (impl_within.calls a1_3 0 x5_2 t322 _ A19.out).mono ?_); rintro e w' ⟨rfl, ⟨nd, rfl⟩⟩))
         go_ret
         exact ⟨ee, bb HB⟩
        ·replace c18 := Bool.eq_false_iff.mpr c18
         subst c18
         rw [if_neg (show ¬ (false = true) by decide)] at H
         obtain rfl := Option.some.inj H
         go_wp2_with (first | ((with_reducible refine gcallee_ 128 rfl ?_); refine gl (some 10) Try.func128 #[.int .i64 a0, .int .i64 2, .int .i64 8] ?_; (with_reducible refine (impl_within.calls a0 2 8 true _ A7.out).mono ?_); rintro e w' ⟨rfl, ⟨nd, rfl⟩⟩; refine ⟨_, rfl, ?_⟩; have ⟨z21_0, z21_1, z21_2, z21_3, z21_4, v21_0, v21_1, v21_2, v21_3, v21_4⟩ := rz5 BK316) | (go_at_call 128; (with_reducible refine (impl_within.calls a1_0 0 (wrap64 (a0 - 1)) true _ A11.out).mono ?_); rintro e w' ⟨rfl, ⟨nd, rfl⟩⟩) | (go_at_call 128; (with_reducible refine (impl_within.calls a1_1 0 (wrap64 (a0 - 1)) true _ A13.out).mono ?_); rintro e w' ⟨rfl, ⟨nd, rfl⟩⟩) | (go_at_call 128; (with_reducible refine (impl_within.calls a1_4 0 4 true _ A15.out).mono ?_); rintro e w' ⟨rfl, ⟨nd, rfl⟩⟩) | (go_at_call 128; (with_reducible refine (impl_within.calls a1_2 0 x5_2 false _ A17.out).mono ?_); rintro e w' ⟨rfl, ⟨nd, rfl⟩⟩))
         go_ret
         exact ⟨ee, bb HB⟩
       ·replace c16 := Bool.eq_false_iff.mpr c16
        subst c16
        rw [if_neg (show ¬ (false = true) by decide)] at H
        obtain rfl := Option.some.inj H
        go_wp2_with (first | ((with_reducible refine gcallee_ 128 rfl ?_); refine gl (some 10) Try.func128 #[.int .i64 a0, .int .i64 2, .int .i64 8] ?_; (with_reducible refine (impl_within.calls a0 2 8 true _ A7.out).mono ?_); rintro e w' ⟨rfl, ⟨nd, rfl⟩⟩; refine ⟨_, rfl, ?_⟩; have ⟨z22_0, z22_1, z22_2, z22_3, z22_4, v22_0, v22_1, v22_2, v22_3, v22_4⟩ := rz5 BK316) | (go_at_call 128; (with_reducible refine (impl_within.calls a1_0 0 (wrap64 (a0 - 1)) true _ A11.out).mono ?_); rintro e w' ⟨rfl, ⟨nd, rfl⟩⟩) | (go_at_call 128; (with_reducible refine (impl_within.calls a1_1 0 (wrap64 (a0 - 1)) true _ A13.out).mono ?_); rintro e w' ⟨rfl, ⟨nd, rfl⟩⟩) | (go_at_call 128; (with_reducible refine (impl_within.calls a1_4 0 4 false _ A15.out).mono ?_); rintro e w' ⟨rfl, ⟨nd, rfl⟩⟩))
        go_ret
        exact ⟨ee, bb HB⟩
      ·replace c14 := Bool.eq_false_iff.mpr c14
       subst c14
       rw [if_neg (show ¬ (false = true) by decide)] at H
       obtain rfl := Option.some.inj H
       go_wp2_with (first | ((with_reducible refine gcallee_ 128 rfl ?_); refine gl (some 10) Try.func128 #[.int .i64 a0, .int .i64 2, .int .i64 8] ?_; (with_reducible refine (impl_within.calls a0 2 8 true _ A7.out).mono ?_); rintro e w' ⟨rfl, ⟨nd, rfl⟩⟩; refine ⟨_, rfl, ?_⟩; have ⟨z23_0, z23_1, z23_2, z23_3, z23_4, v23_0, v23_1, v23_2, v23_3, v23_4⟩ := rz5 BK316) | (go_at_call 128; (with_reducible refine (impl_within.calls a1_0 0 (wrap64 (a0 - 1)) true _ A11.out).mono ?_); rintro e w' ⟨rfl, ⟨nd, rfl⟩⟩) | (go_at_call 128; (with_reducible refine (impl_within.calls a1_1 0 (wrap64 (a0 - 1)) false _ A13.out).mono ?_); rintro e w' ⟨rfl, ⟨nd, rfl⟩⟩))
       go_ret
       exact ⟨ee, bb HB⟩
     ·replace c12 := Bool.eq_false_iff.mpr c12
      subst c12
      rw [if_neg (show ¬ (false = true) by decide)] at H
      obtain rfl := Option.some.inj H
      go_wp2_with (first | ((with_reducible refine gcallee_ 128 rfl ?_); refine gl (some 10) Try.func128 #[.int .i64 a0, .int .i64 2, .int .i64 8] ?_; (with_reducible refine (impl_within.calls a0 2 8 true _ A7.out).mono ?_); rintro e w' ⟨rfl, ⟨nd, rfl⟩⟩; refine ⟨_, rfl, ?_⟩; have ⟨z24_0, z24_1, z24_2, z24_3, z24_4, v24_0, v24_1, v24_2, v24_3, v24_4⟩ := rz5 BK316) | (go_at_call 128; (with_reducible refine (impl_within.calls a1_0 0 (wrap64 (a0 - 1)) false _ A11.out).mono ?_); rintro e w' ⟨rfl, ⟨nd, rfl⟩⟩))
      go_ret
      exact ⟨ee, bb HB⟩
   ·replace c8 := Bool.eq_false_iff.mpr c8
    subst c8
    rw [if_neg (show ¬ (false = true) by decide)] at H
    obtain rfl := Option.some.inj H
    go_wp2_with (first | ((with_reducible refine gcallee_ 128 rfl ?_); refine gl (some 10) Try.func128 #[.int .i64 a0, .int .i64 2, .int .i64 8] ?_; (with_reducible refine (impl_within.calls a0 2 8 false _ A7.out).mono ?_); rintro e w' ⟨rfl, ⟨nd, rfl⟩⟩; refine ⟨_, rfl, ?_⟩))
    go_ret
    exact ⟨ee, bb HB⟩
set_option maxHeartbeats 4000000 in
theorem slices_IndexFunc_impl_Game_impl_Game.calls (g : Nat) (lb : Array Value) (eg : ∀ args w, (callFunc g args).run Try.prog w = .ok (.enter g args) w) (p : S95 → Bool) (A0 : Option Addr) (c0 n0 : Nat) (l0 : List (S95)) (w0 w : World) (hB : Below w0.heap.size w0 w) (hr0 : Kd.C k95 w0 A0 n0 l0)
    (hp : ∀ (W : World) (x : S95), Below w.heap.size w W → x ∈ l0 → Calls Try.prog g (#[.agg #[.int .i64 x.f0, .int .i64 x.f1, .int .i64 x.f2, .int .i64 x.f3, .int .i64 x.f4]] ++ lb) W fun e w' => e = .returned (.bool (p x)) ∧ Below W.heap.size W w') :
    Calls Try.prog 186 #[.slice A0 n0 c0, .func (.func g) #[] lb] w fun e w' => e = .returned (.int .i64 (idxI p l0)) ∧ Below w.heap.size w w' := by
  obtain rfl := Kd.C_len hr0
  have hm : l0.length ≤ 9223372036854775807 := hr0.2.1
  have HR0 := dk hr0
  have HP := dk hp
  have HW := dk hB.size
  have HB0 := dk hB
  clear hr0 hp hB
  go_enter Try.func186, Try.ntmps186
  go_wp2
  go_loopg [5, 8] l0.length (fun gg _ s8 wr => ∃ kk : Nat, kk ≤ l0.length ∧ l0.length - kk ≤ gg ∧ s8 = .int .i64 kk ∧ Aside0 (Below w.heap.size w wr) ∧ Aside0 (∀ j, j < kk → p (rd_T95 l0 j) = false))
  case atStart => exact ⟨0, Nat.zero_le _, by omega, rfl, ⟨Below.refl _ w⟩, ⟨fun j hj => absurd hj (Nat.not_lt_zero _)⟩⟩
  case round =>
    obtain ⟨kk, hkk, hg, rfl, BW, HA⟩ := hrel
    by_cases hlt : kk < l0.length
    · have hltz : (kk : Int) < (l0.length : Int) := by omega
      obtain ⟨ad, ead, h0, h1, h2, h3, h4⟩ := at_T95 HR0.out kk (by omega) hltz
      subst ead
      have hb1 : Below w0.heap.size w0 wr := below_then HB0.out HW.out BW.out
      have hcall := HP.out wr (rd_T95 l0 kk) BW.out (by unfold rd_T95; simp [hlt])
      replace h0 := pw_cell_below hb1 h0
      replace h1 := pw_cell_below hb1 h1
      replace h2 := pw_cell_below hb1 h2
      replace h3 := pw_cell_below hb1 h3
      replace h4 := pw_cell_below hb1 h4
      simp only [Int.toNat_natCast] at h0 h1 h2 h3 h4
      have HB1 := dk hb1
      clear hb1
      generalize hy : rd_T95 l0 kk = y at h0 h1 h2 h3 h4 hcall
      have B := dk hy
      clear hy
      cases hq : p y with
      | true =>
        rw [hq] at hcall
        have Q := dk hq
        have HC := dk hcall
        clear hq hcall
        go_wp2_with fail
        refine HC.out.mono ?_
        rintro e w' ⟨rfl, hb'⟩
        go_wp2_with fail
        go_ret
        refine ⟨?_, below_step BW.out hb'⟩
        rw [idxI_hit p l0 kk hlt z95 (by have := B.out; unfold rd_T95 at this; simp only [Int.toNat_natCast] at this; rw [this]; exact Q.out) (fun j hj => by have := HA.out j hj; unfold rd_T95 at this; simpa using this)]
        rfl
      | false =>
        rw [hq] at hcall
        have Q := dk hq
        have HC := dk hcall
        clear hq hcall
        go_wp2_with fail
        refine HC.out.mono ?_
        rintro e w' ⟨rfl, hb'⟩
        go_wp2_with fail
        go_roundg (l0.length - (kk + 1))
        case measure => omega
        case rel =>
          refine ⟨kk + 1, by omega, by omega, by go_num, ⟨below_step BW.out hb'⟩, ⟨fun j hj => ?_⟩⟩
          by_cases e : j = kk
          · subst e
            rw [B.out]; exact Q.out
          · exact HA.out j (by omega)
    · have hltz : ¬ (kk : Int) < (l0.length : Int) := by omega
      have hd : decide ((kk : Int) < (l0.length : Int)) = false := by simp; omega
      have hd2 : decide (kk < l0.length) = false := by simp; omega
      have hk := dk (show kk = l0.length by omega)
      clear hlt hltz hg
      go_wp2_with fail
      go_ret
      obtain rfl := hk.out
      refine ⟨?_, BW.out⟩
      rw [idxI_miss p l0 z95 (fun j hj => by have := HA.out j hj; unfold rd_T95 at this; simpa using this)]
      rfl
def gameIs (h a : Int) (g : S95) : Bool := (g.f0 == h) && (g.f1 == a)
def impl_GameOf.f (l0 : List (S95)) (a1 : Int) (a2 : Int) : Option Int := some (idxI (gameIs a1 a2) l0)
set_option maxHeartbeats 4000000 in
theorem impl_GameOf_1.calls (gh ga : Nat) (h a : Int) (x : S95) (W : World) (hh : W.cell? ⟨gh, 0, none⟩ = some (.int .i64 h)) (ha : W.cell? ⟨ga, 0, none⟩ = some (.int .i64 a)) :
    Calls Try.prog 187 #[.agg #[.int .i64 x.f0, .int .i64 x.f1, .int .i64 x.f2, .int .i64 x.f3, .int .i64 x.f4], .pointer (some ⟨gh, 0, none⟩), .pointer (some ⟨ga, 0, none⟩)] W fun e w' => e = .returned (.bool (gameIs h a x)) ∧ Below W.heap.size W w' := by
  have hl1 : gh < W.heap.size := World.block_lt_of_cell? W _ hh
  have hl2 : ga < W.heap.size := World.block_lt_of_cell? W _ ha
  have hT : ∀ b, gameIs h a x = b → ((x.f0 == h) && (x.f1 == a)) = b := fun b h => h
  generalize gameIs h a x = b at hT
  have HT := dk (hT b rfl)
  clear hT
  cases h3 : x.f0 == h with
  | true =>
    have hb : b = (x.f1 == a) := by rw [← HT.out, h3]; rfl
    subst hb
    clear HT
    go_enter Try.func187, Try.ntmps187
    go_wp2
    go_ret
    exact ⟨rfl, below_alloc (Below.refl _ _) _⟩
  | false =>
    have hb : b = false := by rw [← HT.out, h3]; rfl
    subst hb
    clear HT
    go_enter Try.func187, Try.ntmps187
    go_wp2
    go_ret
    exact ⟨rfl, below_alloc (Below.refl _ _) _⟩
set_option maxHeartbeats 4000000 in
theorem impl_GameOf.calls (A0 : Option Addr) (c0 : Nat) (l0 : List (S95)) (a1 : Int) (a2 : Int) (r : Int) (w : World) (hr0 : Kd.C k95 w A0 l0.length l0) (hc0 : l0.length ≤ c0) (h : impl_GameOf.f l0 a1 a2 = some r) :
    Calls Try.prog 165 #[.slice A0 l0.length c0, .int .i64 a1, .int .i64 a2] w fun e w' => e = .returned (.int .i64 r) ∧ Below w.heap.size w w' := by
  have HR := dk (Option.some.inj h)
  have HR0 := dk hr0
  clear h hr0 hc0
  have eg := my_enters Try.func187 (by kernel_rfl) rfl
  have HG := dk eg
  clear eg
  go_enter Try.func165, Try.ntmps165
  go_wp2_with fail
  refine ((slices_IndexFunc_impl_Game_impl_Game.calls 187 #[.pointer (some ⟨w.heap.size, 0, none⟩), .pointer (some ⟨w.heap.size + 1, 0, none⟩)] HG.out (gameIs a1 a2) A0 c0 l0.length l0 w _ (below_alloc (below_alloc (Below.refl _ _) _) _) HR0.out (fun W x hW _ => impl_GameOf_1.calls w.heap.size (w.heap.size + 1) a1 a2 x W ?_ ?_)).mono ?_)
  · exact pw_cell_below hW (by simp)
  · exact pw_cell_below hW (by simp)
  rintro e w2 ⟨rfl, hb2⟩
  have HB2 := dk (below_step (below_alloc (below_alloc (Below.refl _ _) _) _) hb2)
  clear hb2
  generalize hi : idxI (gameIs a1 a2) l0 = i at HR
  have HI := dk hi
  clear hi
  go_wp2_with fail
  go_ret
  exact ⟨by rw [← HR.out]; rfl, HB2.out⟩
def impl_SeasonOk.l0 : Nat → Int → List (S95) → List (S95) → Int → Int → Option (Bool)
 | 0, _, _, _, _, _ => none
 | k + 1, x0, x1, x7, x8, x9 => if x9 < x8 then (if 0 ≤ x9 then (if x9 < (x7.length : Int) then ((impl_GameOk.f k x0 ((rd_T95 x7 x9).f0) ((rd_T95 x7 x9).f1) ((rd_T95 x7 x9).f2) ((rd_T95 x7 x9).f3) ((rd_T95 x7 x9).f4)).bind fun t325 => (if t325 = true then (if x9 ≤ (x1.length : Int) then ((impl_GameOf.f (x1.take (x9 : Int).toNat) ((rd_T95 x7 x9).f0) ((rd_T95 x7 x9).f1)).bind fun t330 => (if t330 ≥ 0 then (some false) else (impl_SeasonOk.l0 k x0 x1 x7 x8 (wrap64 (x9 + 1))))) else (none)) else (some false))) else (none)) else (none)) else (some (decide ((x1.length : Int) ≤ 60)))
def impl_SeasonOk.f (k : Nat) (a0 : Int) (l1 : List (S95)) : Option (Bool) := impl_SeasonOk.l0 k a0 l1 l1 (l1.length : Int) 0
def impl_SeasonOk.T4 : Bool × List (List Nat × List Nat) := (true, [([], []), ([], []), ([0, 1], [0, 1]), ([2], [2]), ([3, 2], [3]), ([4], [4]), ([4], [4]), ([5, 6, 4], [4, 5, 6]), ([4], [4]), ([8, 4], [4, 8]), ([4], [4]), ([10, 4], [4, 10]), ([7, 9, 11, 4, 4], [4, 7, 9, 11]), ([12, 4], [4, 12]), ([4, 13], [4, 13])])
def impl_SeasonOk.B4 : List Nat := [0, 0, 3, 7, 15, 31, 31, 127, 31, 287, 31, 1055, 4095, 8191, 16383]
theorem impl_SeasonOk.tab4 : rtab .any (opsOf Try.f124 4) = impl_SeasonOk.T4 := by kernel_rfl
theorem impl_SeasonOk.bits4 : waitsOk impl_SeasonOk.T4.2 impl_SeasonOk.B4 = true := by kernel_rfl
theorem impl_SeasonOk.calls (k : Nat) (a0 : Int) (A1 : Option Addr) (c1 : Nat) (l1 : List (S95)) (r : Bool) (w : World) (hr1 : Kd.C k95 w A1 l1.length l1) (hc1 : l1.length ≤ c1) (h : impl_SeasonOk.f k a0 l1 = some r) :
  Calls Try.prog 124 #[.int .i64 a0, .slice A1 l1.length c1] w fun e w' => e = .returned (.bool r) ∧ Below w.heap.size w w' := by
 have hu95 := Try.underlying95
 have HR1 := dk hr1
 have HC1 := dk hc1
 clear hr1 hc1
 have HB := hb0 w
 have H : (impl_SeasonOk.l0 k a0 l1 l1 (l1.length : Int) 0) = some r := h
 clear h
 have H' := dk H
 clear H
 go_enter Try.func124, Try.ntmps124
 go_wp2
 go_loopg [9] k (fun kq v9 w' => ∃ (x9_1 : Int), v9 = .int .i64 x9_1 ∧ Aside0 (impl_SeasonOk.l0 kq a0 l1 l1 (l1.length : Int) x9_1 = some r) ∧ Aside0 (kq ≤ k) ∧ Aside0 (Below w.heap.size w w'))
 case atStart => exact ⟨(0), e2_, H', ⟨Nat.le_refl _⟩, ⟨bb HB⟩⟩
 case round =>
  clear H'
  obtain ⟨x9_1, rfl, HA, HK1, HB⟩ := hrel
  cases gk with
  | zero => exact absurd HA.out (by simp [impl_SeasonOk.l0])
  | succ k1 =>
   have H := HA.out
   clear HA
   simp only [impl_SeasonOk.l0] at H
   by_cases c3 : x9_1 < (l1.length : Int)
   ·rw [if_pos c3] at H
    have c3b0 := decide_eq_true c3
    clear c3
    by_cases c4 : 0 ≤ x9_1
    ·rw [if_pos c4] at H
     have c4b0 := decide_eq_true c4
     clear c4
     by_cases c5 : x9_1 < (l1.length : Int)
     ·rw [if_pos c5] at H
      have c5b0 := decide_eq_true c5
      clear c5
      replace H := Option.bind_eq_some_iff.mp H
      obtain ⟨t325, A60, H⟩ := H
      try dsimp only at H
      have A6 := dk A60
      clear A60
      by_cases c7 : t325 = true
      ·subst c7
       rw [if_pos rfl] at H
       have c8b0 := eq_true (oa : 0 ≤ x9_1)
       by_cases c9 : x9_1 ≤ (l1.length : Int)
       ·rw [if_pos c9] at H
        have c9b0 := eq_true c9
        have c9b1 := decide_eq_true c9
        clear c9
        obtain ⟨y326, hy326⟩ : ∃ y_ : List (S95), y_ = (l1.take (x9_1 : Int).toNat) := ⟨_, rfl⟩
        replace H : ((impl_GameOf.f y326 ((rd_T95 l1 x9_1).f0) ((rd_T95 l1 x9_1).f1)).bind fun t330 => (if t330 ≥ 0 then (some false) else (impl_SeasonOk.l0 k1 a0 l1 l1 (l1.length : Int) (wrap64 (x9_1 + 1))))) = some r := by first | (rw [hy326]; with_reducible exact H) | (have H2_ := (Option.bind_some _ _).symm.trans H; rw [hy326]; with_reducible exact H2_) | (have H2_ := (Option.bind_some _ _).symm.trans H; with_reducible exact H2_) | with_reducible exact H | (rw [hy326]; exact H) | exact H
        have Ny326 := dk hy326
        clear hy326
        replace H := Option.bind_eq_some_iff.mp H
        obtain ⟨t330, A100, H⟩ := H
        try dsimp only at H
        have A10 := dk A100
        clear A100
        by_cases c11 : t330 ≥ 0
        ·rw [if_pos c11] at H
         have c11b0 := decide_eq_true c11
         clear c11
         obtain rfl := Option.some.inj H
         have p323 : 0 ≤ (x9_1 : Int) := oa
         have q323 : x9_1 < (l1.length : Int) := oa
         obtain ⟨ad323, e323, hx323_0, hx323_1, hx323_2, hx323_3, hx323_4⟩ := at_T95 HR1.out x9_1 p323 q323
         cases e323
         replace hx323_0 := hc HB hx323_0
         replace hx323_1 := hc HB hx323_1
         replace hx323_2 := hc HB hx323_2
         replace hx323_3 := hc HB hx323_3
         replace hx323_4 := hc HB hx323_4
         replace p323 := eq_true p323
         replace q323 := eq_true q323
         try go_wp2_with (first | ((with_reducible refine gdst_ 6 rfl ?_); refine bx (N := 6) (cs := #[.int .i64 0, .int .i64 0, .int .i64 0, .int .i64 0, .int .i64 0]) (t := 95) ?_; intro gb324 hg w12 hbox hb; have BK324 := dk (hbox); have GW324 := gs hg HB; have GE324 := gs hg HB; replace HB := hs_ HB hb; clear hb hbox hg; have ⟨z13_0, z13_1, z13_2, z13_3, z13_4, v13_0, v13_1, v13_2, v13_3, v13_4⟩ := rz5 BK324))
         have n0_ : Aside0 ((((((w12.setCell ⟨gb324, 0, none⟩ (.int .i64 ((rd_T95 l1 x9_1).f0))).setCell ⟨gb324, 1, none⟩ (.int .i64 ((rd_T95 l1 x9_1).f1))).setCell ⟨gb324, 2, none⟩ (.int .i64 ((rd_T95 l1 x9_1).f2))).setCell ⟨gb324, 3, none⟩ (.int .i64 ((rd_T95 l1 x9_1).f3))).setCell ⟨gb324, 4, none⟩ (.int .i64 ((rd_T95 l1 x9_1).f4))).heap[gb324]? = some (.cells #[.int .i64 ((rd_T95 l1 x9_1).f0), .int .i64 ((rd_T95 l1 x9_1).f1), .int .i64 ((rd_T95 l1 x9_1).f2), .int .i64 ((rd_T95 l1 x9_1).f3), .int .i64 ((rd_T95 l1 x9_1).f4)] 95 (0, 0))) := ⟨by (with_reducible repeat (first | refine blk_drewN ?_ _ | refine blk_drew ?_ | refine blk_alloc ?_ _)); refine blk_put (cs := #[.int .i64 ((rd_T95 l1 x9_1).f0), .int .i64 ((rd_T95 l1 x9_1).f1), .int .i64 ((rd_T95 l1 x9_1).f2), .int .i64 ((rd_T95 l1 x9_1).f3), .int .i64 0]) ?_ 4 _ rfl; (with_reducible repeat (first | refine blk_drewN ?_ _ | refine blk_drew ?_ | refine blk_alloc ?_ _)); refine blk_put (cs := #[.int .i64 ((rd_T95 l1 x9_1).f0), .int .i64 ((rd_T95 l1 x9_1).f1), .int .i64 ((rd_T95 l1 x9_1).f2), .int .i64 0, .int .i64 0]) ?_ 3 _ rfl; (with_reducible repeat (first | refine blk_drewN ?_ _ | refine blk_drew ?_ | refine blk_alloc ?_ _)); refine blk_put (cs := #[.int .i64 ((rd_T95 l1 x9_1).f0), .int .i64 ((rd_T95 l1 x9_1).f1), .int .i64 0, .int .i64 0, .int .i64 0]) ?_ 2 _ rfl; (with_reducible repeat (first | refine blk_drewN ?_ _ | refine blk_drew ?_ | refine blk_alloc ?_ _)); refine blk_put (cs := #[.int .i64 ((rd_T95 l1 x9_1).f0), .int .i64 0, .int .i64 0, .int .i64 0, .int .i64 0]) ?_ 1 _ rfl; (with_reducible repeat (first | refine blk_drewN ?_ _ | refine blk_drew ?_ | refine blk_alloc ?_ _)); refine blk_put (cs := #[.int .i64 0, .int .i64 0, .int .i64 0, .int .i64 0, .int .i64 0]) ?_ 0 _ rfl; (with_reducible repeat (first | refine blk_drewN ?_ _ | refine blk_drew ?_ | refine blk_alloc ?_ _)); exact BK324.out⟩
         have n1_ : Aside0 (Below w.heap.size w (((((w12.setCell ⟨gb324, 0, none⟩ (.int .i64 ((rd_T95 l1 x9_1).f0))).setCell ⟨gb324, 1, none⟩ (.int .i64 ((rd_T95 l1 x9_1).f1))).setCell ⟨gb324, 2, none⟩ (.int .i64 ((rd_T95 l1 x9_1).f2))).setCell ⟨gb324, 3, none⟩ (.int .i64 ((rd_T95 l1 x9_1).f3))).setCell ⟨gb324, 4, none⟩ (.int .i64 ((rd_T95 l1 x9_1).f4)))) := ⟨bb HB⟩
         generalize (((((w12.setCell ⟨gb324, 0, none⟩ (.int .i64 ((rd_T95 l1 x9_1).f0))).setCell ⟨gb324, 1, none⟩ (.int .i64 ((rd_T95 l1 x9_1).f1))).setCell ⟨gb324, 2, none⟩ (.int .i64 ((rd_T95 l1 x9_1).f2))).setCell ⟨gb324, 3, none⟩ (.int .i64 ((rd_T95 l1 x9_1).f3))).setCell ⟨gb324, 4, none⟩ (.int .i64 ((rd_T95 l1 x9_1).f4))) = w14 at n0_ n1_ ⊢
         have BK324 := n0_
         have HB := n1_
         clear n0_ n1_
         replace BK324 := dk (blk_drew BK324.out)
         replace HB := dk (below_drew1 HB.out)
         refine start_ (n := 15) (S := fun w' => hd5 w' gb324 (.int .i64 ((rd_T95 l1 x9_1).f0)) (.int .i64 ((rd_T95 l1 x9_1).f1)) (.int .i64 ((rd_T95 l1 x9_1).f2)) (.int .i64 ((rd_T95 l1 x9_1).f3)) (.int .i64 ((rd_T95 l1 x9_1).f4))) (ds := []) #[false, false, false, false, false, false, false, false, false, false, false, false, false, false, false] (by kernel_rfl) rfl rfl (rb5 BK324) (fun hHeld => ?_); refine with_tabW impl_SeasonOk.tab4 impl_SeasonOk.bits4 (fun HT_ HW_ => ?_)
         generalize w14.drew = w15 at BK324 HB hHeld ⊢
         refine pz_ 0 14 ?_
         refine tk_ 1 15 ?_
         refine on_ 2 (some 16) (fun K hK => ?_)
         refine ga_ Try.func164 #[.int .i64 a0, .agg #[.int .i64 ((rd_T95 l1 x9_1).f0), .int .i64 ((rd_T95 l1 x9_1).f1), .int .i64 ((rd_T95 l1 x9_1).f2), .int .i64 ((rd_T95 l1 x9_1).f3), .int .i64 ((rd_T95 l1 x9_1).f4)]] ?_
         with_reducible refine (impl_GameOk.calls k1 a0 ((rd_T95 l1 x9_1).f0) ((rd_T95 l1 x9_1).f1) ((rd_T95 l1 x9_1).f2) ((rd_T95 l1 x9_1).f3) ((rd_T95 l1 x9_1).f4) true _ A6.out).mono ?_
         rintro e w16 ⟨rfl, hb⟩
         refine ⟨_, rfl, ?_⟩
         replace BK324 := kb BK324 hb
         replace HB := hs_ HB hb
         have q17 : (x9_1 : Int) ≤ ((l1.length : Int) : Int) := oa
         obtain ⟨i017, hi017, _, hsz17, _⟩ := info_parts info95
         have hroom17 : l1.length ≤ c1 := HC1.out
         have hC17 : Kd.C k95 _ (some ad323) l1.length l1 := HR1.out
         have hcut17 := cut_to (P := Try.prog) 34 95 .i64 Try.underlying34 hi017 (some ad323) l1.length c1 x9_1 (oa) q17 hroom17
         have hr17 := Kd.C_take (m := (x9_1 : Int).toNat) hC17 (by omega)
         have hy17 : y326.length = (x9_1 : Int).toNat := (by rw [Ny326.out, List.length_take]; omega)
         rw [← Ny326.out] at hr17
         rw [← hy17] at hcut17
         have HR329 := dk hr17
         have HC329 := dk (show y326.length ≤ c1 from by omega)
         clear hr17 hC17 hroom17 hi017 hsz17
         have KY17 := dk hy17
         clear hy17
         replace q17 := eq_true q17
         refine hK.out _ _ (rb5 BK324) (fun hHeld => ?_)
         clear hK K
         refine no_ ?_
         refine pz_ 3 17 ?_
         refine pz_ 4 18 ?_
         refine pz_ 5 19 ?_
         refine pz_ 6 20 ?_
         refine pz_ 7 21 ?_
         refine pz_ 8 22 ?_
         refine pz_ 10 24 ?_
         refine tk_ 9 23 ?_
         refine tk_ 11 25 ?_
         refine on_ 12 (some 26) (fun K hK => ?_)
         refine ga_ Try.func165 #[.slice (some ad323) y326.length c1, .int .i64 ((rd_T95 l1 x9_1).f0), .int .i64 ((rd_T95 l1 x9_1).f1)] ?_
         with_reducible refine (impl_GameOf.calls _ _ y326 ((rd_T95 l1 x9_1).f0) ((rd_T95 l1 x9_1).f1) t330 _ ?side1 ?side2 A10.out).mono ?_
         (case side1 => exact cc HR329 HB)
         (case side2 => exact HC329.out)
         rintro e w18 ⟨rfl, hb⟩
         refine ⟨_, rfl, ?_⟩
         replace BK324 := kb BK324 hb
         replace HB := hs_ HB hb
         refine hK.out _ _ (rb5 BK324) (fun hHeld => ?_)
         clear hK K
         refine no_ ?_
         refine pz_ 13 27 ?_
         refine pz_ 14 28 ?_
         refine done_ (done_of HT_.out (by kernel_rfl)) ?_
         try go_wp2
         go_ret
         exact ⟨ee, bb HB⟩
        ·rw [if_neg c11] at H
         have c11b0 := decide_eq_false c11
         clear c11
         have H' := dk H
         clear H
         have p323 : 0 ≤ (x9_1 : Int) := oa
         have q323 : x9_1 < (l1.length : Int) := oa
         obtain ⟨ad323, e323, hx323_0, hx323_1, hx323_2, hx323_3, hx323_4⟩ := at_T95 HR1.out x9_1 p323 q323
         cases e323
         replace hx323_0 := hc HB hx323_0
         replace hx323_1 := hc HB hx323_1
         replace hx323_2 := hc HB hx323_2
         replace hx323_3 := hc HB hx323_3
         replace hx323_4 := hc HB hx323_4
         replace p323 := eq_true p323
         replace q323 := eq_true q323
         try go_wp2_with (first | ((with_reducible refine gdst_ 6 rfl ?_); refine bx (N := 6) (cs := #[.int .i64 0, .int .i64 0, .int .i64 0, .int .i64 0, .int .i64 0]) (t := 95) ?_; intro gb324 hg w19 hbox hb; have BK324 := dk (hbox); have GW324 := gs hg HB; have GE324 := gs hg HB; replace HB := hs_ HB hb; clear hb hbox hg; have ⟨z20_0, z20_1, z20_2, z20_3, z20_4, v20_0, v20_1, v20_2, v20_3, v20_4⟩ := rz5 BK324))
         have n0_ : Aside0 ((((((w19.setCell ⟨gb324, 0, none⟩ (.int .i64 ((rd_T95 l1 x9_1).f0))).setCell ⟨gb324, 1, none⟩ (.int .i64 ((rd_T95 l1 x9_1).f1))).setCell ⟨gb324, 2, none⟩ (.int .i64 ((rd_T95 l1 x9_1).f2))).setCell ⟨gb324, 3, none⟩ (.int .i64 ((rd_T95 l1 x9_1).f3))).setCell ⟨gb324, 4, none⟩ (.int .i64 ((rd_T95 l1 x9_1).f4))).heap[gb324]? = some (.cells #[.int .i64 ((rd_T95 l1 x9_1).f0), .int .i64 ((rd_T95 l1 x9_1).f1), .int .i64 ((rd_T95 l1 x9_1).f2), .int .i64 ((rd_T95 l1 x9_1).f3), .int .i64 ((rd_T95 l1 x9_1).f4)] 95 (0, 0))) := ⟨by (with_reducible repeat (first | refine blk_drewN ?_ _ | refine blk_drew ?_ | refine blk_alloc ?_ _)); refine blk_put (cs := #[.int .i64 ((rd_T95 l1 x9_1).f0), .int .i64 ((rd_T95 l1 x9_1).f1), .int .i64 ((rd_T95 l1 x9_1).f2), .int .i64 ((rd_T95 l1 x9_1).f3), .int .i64 0]) ?_ 4 _ rfl; (with_reducible repeat (first | refine blk_drewN ?_ _ | refine blk_drew ?_ | refine blk_alloc ?_ _)); refine blk_put (cs := #[.int .i64 ((rd_T95 l1 x9_1).f0), .int .i64 ((rd_T95 l1 x9_1).f1), .int .i64 ((rd_T95 l1 x9_1).f2), .int .i64 0, .int .i64 0]) ?_ 3 _ rfl; (with_reducible repeat (first | refine blk_drewN ?_ _ | refine blk_drew ?_ | refine blk_alloc ?_ _)); refine blk_put (cs := #[.int .i64 ((rd_T95 l1 x9_1).f0), .int .i64 ((rd_T95 l1 x9_1).f1), .int .i64 0, .int .i64 0, .int .i64 0]) ?_ 2 _ rfl; (with_reducible repeat (first | refine blk_drewN ?_ _ | refine blk_drew ?_ | refine blk_alloc ?_ _)); refine blk_put (cs := #[.int .i64 ((rd_T95 l1 x9_1).f0), .int .i64 0, .int .i64 0, .int .i64 0, .int .i64 0]) ?_ 1 _ rfl; (with_reducible repeat (first | refine blk_drewN ?_ _ | refine blk_drew ?_ | refine blk_alloc ?_ _)); refine blk_put (cs := #[.int .i64 0, .int .i64 0, .int .i64 0, .int .i64 0, .int .i64 0]) ?_ 0 _ rfl; (with_reducible repeat (first | refine blk_drewN ?_ _ | refine blk_drew ?_ | refine blk_alloc ?_ _)); exact BK324.out⟩
         have n1_ : Aside0 (Below w.heap.size w (((((w19.setCell ⟨gb324, 0, none⟩ (.int .i64 ((rd_T95 l1 x9_1).f0))).setCell ⟨gb324, 1, none⟩ (.int .i64 ((rd_T95 l1 x9_1).f1))).setCell ⟨gb324, 2, none⟩ (.int .i64 ((rd_T95 l1 x9_1).f2))).setCell ⟨gb324, 3, none⟩ (.int .i64 ((rd_T95 l1 x9_1).f3))).setCell ⟨gb324, 4, none⟩ (.int .i64 ((rd_T95 l1 x9_1).f4)))) := ⟨bb HB⟩
         generalize (((((w19.setCell ⟨gb324, 0, none⟩ (.int .i64 ((rd_T95 l1 x9_1).f0))).setCell ⟨gb324, 1, none⟩ (.int .i64 ((rd_T95 l1 x9_1).f1))).setCell ⟨gb324, 2, none⟩ (.int .i64 ((rd_T95 l1 x9_1).f2))).setCell ⟨gb324, 3, none⟩ (.int .i64 ((rd_T95 l1 x9_1).f3))).setCell ⟨gb324, 4, none⟩ (.int .i64 ((rd_T95 l1 x9_1).f4))) = w21 at n0_ n1_ ⊢
         have BK324 := n0_
         have HB := n1_
         clear n0_ n1_
         replace BK324 := dk (blk_drew BK324.out)
         replace HB := dk (below_drew1 HB.out)
         refine start_ (n := 15) (S := fun w' => hd5 w' gb324 (.int .i64 ((rd_T95 l1 x9_1).f0)) (.int .i64 ((rd_T95 l1 x9_1).f1)) (.int .i64 ((rd_T95 l1 x9_1).f2)) (.int .i64 ((rd_T95 l1 x9_1).f3)) (.int .i64 ((rd_T95 l1 x9_1).f4))) (ds := []) #[false, false, false, false, false, false, false, false, false, false, false, false, false, false, false] (by kernel_rfl) rfl rfl (rb5 BK324) (fun hHeld => ?_); refine with_tabW impl_SeasonOk.tab4 impl_SeasonOk.bits4 (fun HT_ HW_ => ?_)
         generalize w21.drew = w22 at BK324 HB hHeld ⊢
         refine pz_ 0 14 ?_
         refine tk_ 1 15 ?_
         refine on_ 2 (some 16) (fun K hK => ?_)
         refine ga_ Try.func164 #[.int .i64 a0, .agg #[.int .i64 ((rd_T95 l1 x9_1).f0), .int .i64 ((rd_T95 l1 x9_1).f1), .int .i64 ((rd_T95 l1 x9_1).f2), .int .i64 ((rd_T95 l1 x9_1).f3), .int .i64 ((rd_T95 l1 x9_1).f4)]] ?_
         with_reducible refine (impl_GameOk.calls k1 a0 ((rd_T95 l1 x9_1).f0) ((rd_T95 l1 x9_1).f1) ((rd_T95 l1 x9_1).f2) ((rd_T95 l1 x9_1).f3) ((rd_T95 l1 x9_1).f4) true _ A6.out).mono ?_
         rintro e w23 ⟨rfl, hb⟩
         refine ⟨_, rfl, ?_⟩
         replace BK324 := kb BK324 hb
         replace HB := hs_ HB hb
         have q24 : (x9_1 : Int) ≤ ((l1.length : Int) : Int) := oa
         obtain ⟨i024, hi024, _, hsz24, _⟩ := info_parts info95
         have hroom24 : l1.length ≤ c1 := HC1.out
         have hC24 : Kd.C k95 _ (some ad323) l1.length l1 := HR1.out
         have hcut24 := cut_to (P := Try.prog) 34 95 .i64 Try.underlying34 hi024 (some ad323) l1.length c1 x9_1 (oa) q24 hroom24
         have hr24 := Kd.C_take (m := (x9_1 : Int).toNat) hC24 (by omega)
         have hy24 : y326.length = (x9_1 : Int).toNat := (by rw [Ny326.out, List.length_take]; omega)
         rw [← Ny326.out] at hr24
         rw [← hy24] at hcut24
         have HR329 := dk hr24
         have HC329 := dk (show y326.length ≤ c1 from by omega)
         clear hr24 hC24 hroom24 hi024 hsz24
         have KY24 := dk hy24
         clear hy24
         replace q24 := eq_true q24
         refine hK.out _ _ (rb5 BK324) (fun hHeld => ?_)
         clear hK K
         refine no_ ?_
         refine pz_ 3 17 ?_
         refine pz_ 4 18 ?_
         refine pz_ 5 19 ?_
         refine pz_ 6 20 ?_
         refine pz_ 7 21 ?_
         refine pz_ 8 22 ?_
         refine pz_ 10 24 ?_
         refine tk_ 9 23 ?_
         refine tk_ 11 25 ?_
         refine on_ 12 (some 26) (fun K hK => ?_)
         refine ga_ Try.func165 #[.slice (some ad323) y326.length c1, .int .i64 ((rd_T95 l1 x9_1).f0), .int .i64 ((rd_T95 l1 x9_1).f1)] ?_
         with_reducible refine (impl_GameOf.calls _ _ y326 ((rd_T95 l1 x9_1).f0) ((rd_T95 l1 x9_1).f1) t330 _ ?side1 ?side2 A10.out).mono ?_
         (case side1 => exact cc HR329 HB)
         (case side2 => exact HC329.out)
         rintro e w25 ⟨rfl, hb⟩
         refine ⟨_, rfl, ?_⟩
         replace BK324 := kb BK324 hb
         replace HB := hs_ HB hb
         refine hK.out _ _ (rb5 BK324) (fun hHeld => ?_)
         clear hK K
         refine no_ ?_
         refine pz_ 13 27 ?_
         refine pz_ 14 28 ?_
         refine done_ (done_of HT_.out (by kernel_rfl)) ?_
         try go_wp2
         go_roundg k1
         case measure => have := HK1.out; omega
         case rel => exact ⟨(wrap64 (x9_1 + 1)), e2_, H', ⟨by have := HK1.out; omega⟩, ⟨bb HB⟩⟩
       ·rw [if_neg c9] at H
        exact absurd H (by simp)
      ·replace c7 := Bool.eq_false_iff.mpr c7
       subst c7
       rw [if_neg (show ¬ (false = true) by decide)] at H
       obtain rfl := Option.some.inj H
       have p323 : 0 ≤ (x9_1 : Int) := oa
       have q323 : x9_1 < (l1.length : Int) := oa
       obtain ⟨ad323, e323, hx323_0, hx323_1, hx323_2, hx323_3, hx323_4⟩ := at_T95 HR1.out x9_1 p323 q323
       cases e323
       replace hx323_0 := hc HB hx323_0
       replace hx323_1 := hc HB hx323_1
       replace hx323_2 := hc HB hx323_2
       replace hx323_3 := hc HB hx323_3
       replace hx323_4 := hc HB hx323_4
       replace p323 := eq_true p323
       replace q323 := eq_true q323
       try go_wp2_with (first | ((with_reducible refine gdst_ 6 rfl ?_); refine bx (N := 6) (cs := #[.int .i64 0, .int .i64 0, .int .i64 0, .int .i64 0, .int .i64 0]) (t := 95) ?_; intro gb324 hg w26 hbox hb; have BK324 := dk (hbox); have GW324 := gs hg HB; have GE324 := gs hg HB; replace HB := hs_ HB hb; clear hb hbox hg; have ⟨z27_0, z27_1, z27_2, z27_3, z27_4, v27_0, v27_1, v27_2, v27_3, v27_4⟩ := rz5 BK324))
       have n0_ : Aside0 ((((((w26.setCell ⟨gb324, 0, none⟩ (.int .i64 ((rd_T95 l1 x9_1).f0))).setCell ⟨gb324, 1, none⟩ (.int .i64 ((rd_T95 l1 x9_1).f1))).setCell ⟨gb324, 2, none⟩ (.int .i64 ((rd_T95 l1 x9_1).f2))).setCell ⟨gb324, 3, none⟩ (.int .i64 ((rd_T95 l1 x9_1).f3))).setCell ⟨gb324, 4, none⟩ (.int .i64 ((rd_T95 l1 x9_1).f4))).heap[gb324]? = some (.cells #[.int .i64 ((rd_T95 l1 x9_1).f0), .int .i64 ((rd_T95 l1 x9_1).f1), .int .i64 ((rd_T95 l1 x9_1).f2), .int .i64 ((rd_T95 l1 x9_1).f3), .int .i64 ((rd_T95 l1 x9_1).f4)] 95 (0, 0))) := ⟨by (with_reducible repeat (first | refine blk_drewN ?_ _ | refine blk_drew ?_ | refine blk_alloc ?_ _)); refine blk_put (cs := #[.int .i64 ((rd_T95 l1 x9_1).f0), .int .i64 ((rd_T95 l1 x9_1).f1), .int .i64 ((rd_T95 l1 x9_1).f2), .int .i64 ((rd_T95 l1 x9_1).f3), .int .i64 0]) ?_ 4 _ rfl; (with_reducible repeat (first | refine blk_drewN ?_ _ | refine blk_drew ?_ | refine blk_alloc ?_ _)); refine blk_put (cs := #[.int .i64 ((rd_T95 l1 x9_1).f0), .int .i64 ((rd_T95 l1 x9_1).f1), .int .i64 ((rd_T95 l1 x9_1).f2), .int .i64 0, .int .i64 0]) ?_ 3 _ rfl; (with_reducible repeat (first | refine blk_drewN ?_ _ | refine blk_drew ?_ | refine blk_alloc ?_ _)); refine blk_put (cs := #[.int .i64 ((rd_T95 l1 x9_1).f0), .int .i64 ((rd_T95 l1 x9_1).f1), .int .i64 0, .int .i64 0, .int .i64 0]) ?_ 2 _ rfl; (with_reducible repeat (first | refine blk_drewN ?_ _ | refine blk_drew ?_ | refine blk_alloc ?_ _)); refine blk_put (cs := #[.int .i64 ((rd_T95 l1 x9_1).f0), .int .i64 0, .int .i64 0, .int .i64 0, .int .i64 0]) ?_ 1 _ rfl; (with_reducible repeat (first | refine blk_drewN ?_ _ | refine blk_drew ?_ | refine blk_alloc ?_ _)); refine blk_put (cs := #[.int .i64 0, .int .i64 0, .int .i64 0, .int .i64 0, .int .i64 0]) ?_ 0 _ rfl; (with_reducible repeat (first | refine blk_drewN ?_ _ | refine blk_drew ?_ | refine blk_alloc ?_ _)); exact BK324.out⟩
       have n1_ : Aside0 (Below w.heap.size w (((((w26.setCell ⟨gb324, 0, none⟩ (.int .i64 ((rd_T95 l1 x9_1).f0))).setCell ⟨gb324, 1, none⟩ (.int .i64 ((rd_T95 l1 x9_1).f1))).setCell ⟨gb324, 2, none⟩ (.int .i64 ((rd_T95 l1 x9_1).f2))).setCell ⟨gb324, 3, none⟩ (.int .i64 ((rd_T95 l1 x9_1).f3))).setCell ⟨gb324, 4, none⟩ (.int .i64 ((rd_T95 l1 x9_1).f4)))) := ⟨bb HB⟩
       generalize (((((w26.setCell ⟨gb324, 0, none⟩ (.int .i64 ((rd_T95 l1 x9_1).f0))).setCell ⟨gb324, 1, none⟩ (.int .i64 ((rd_T95 l1 x9_1).f1))).setCell ⟨gb324, 2, none⟩ (.int .i64 ((rd_T95 l1 x9_1).f2))).setCell ⟨gb324, 3, none⟩ (.int .i64 ((rd_T95 l1 x9_1).f3))).setCell ⟨gb324, 4, none⟩ (.int .i64 ((rd_T95 l1 x9_1).f4))) = w28 at n0_ n1_ ⊢
       have BK324 := n0_
       have HB := n1_
       clear n0_ n1_
       replace BK324 := dk (blk_drew BK324.out)
       replace HB := dk (below_drew1 HB.out)
       refine start_ (n := 15) (S := fun w' => hd5 w' gb324 (.int .i64 ((rd_T95 l1 x9_1).f0)) (.int .i64 ((rd_T95 l1 x9_1).f1)) (.int .i64 ((rd_T95 l1 x9_1).f2)) (.int .i64 ((rd_T95 l1 x9_1).f3)) (.int .i64 ((rd_T95 l1 x9_1).f4))) (ds := []) #[false, false, false, false, false, false, false, false, false, false, false, false, false, false, false] (by kernel_rfl) rfl rfl (rb5 BK324) (fun hHeld => ?_); refine with_tabW impl_SeasonOk.tab4 impl_SeasonOk.bits4 (fun HT_ HW_ => ?_)
       generalize w28.drew = w29 at BK324 HB hHeld ⊢
       refine pz_ 0 14 ?_
       refine tk_ 1 15 ?_
       refine on_ 2 (some 16) (fun K hK => ?_)
       refine ga_ Try.func164 #[.int .i64 a0, .agg #[.int .i64 ((rd_T95 l1 x9_1).f0), .int .i64 ((rd_T95 l1 x9_1).f1), .int .i64 ((rd_T95 l1 x9_1).f2), .int .i64 ((rd_T95 l1 x9_1).f3), .int .i64 ((rd_T95 l1 x9_1).f4)]] ?_
       with_reducible refine (impl_GameOk.calls k1 a0 ((rd_T95 l1 x9_1).f0) ((rd_T95 l1 x9_1).f1) ((rd_T95 l1 x9_1).f2) ((rd_T95 l1 x9_1).f3) ((rd_T95 l1 x9_1).f4) false _ A6.out).mono ?_
       rintro e w30 ⟨rfl, hb⟩
       refine ⟨_, rfl, ?_⟩
       replace BK324 := kb BK324 hb
       replace HB := hs_ HB hb
       refine hK.out _ _ (rb5 BK324) (fun hHeld => ?_)
       clear hK K
       refine no_ ?_
       refine pz_ 3 17 ?_
       refine pz_ 4 18 ?_
       refine pu_ 5 19 ?_
       refine pu_ 6 20 ?_
       refine pu_ 7 21 ?_
       refine pu_ 8 22 ?_
       refine pu_ 9 23 ?_
       refine pu_ 10 24 ?_
       refine pu_ 11 25 ?_
       refine pu_ 12 26 ?_
       refine pu_ 13 27 ?_
       refine pz_ 14 28 ?_
       refine done_ (done_of HT_.out (by kernel_rfl)) ?_
       try go_wp2
       go_ret
       exact ⟨ee, bb HB⟩
     ·rw [if_neg c5] at H
      exact absurd H (by simp)
    ·rw [if_neg c4] at H
     exact absurd H (by simp)
   ·rw [if_neg c3] at H
    have c3b0 := decide_eq_false c3
    clear c3
    obtain rfl := Option.some.inj H
    go_wp2
    go_ret
    exact ⟨ee, bb HB⟩
set_option maxHeartbeats 4000000 in
theorem slices_IndexFunc_int_int.calls (g : Nat) (lb : Array Value) (eg : ∀ args w, (callFunc g args).run Try.prog w = .ok (.enter g args) w) (p : Int → Bool) (A0 : Option Addr) (c0 n0 : Nat) (l0 : List (Int)) (w0 w : World) (hB : Below w0.heap.size w0 w) (hr0 : Kd.C (Kd.int .i64) w0 A0 n0 l0)
    (hp : ∀ (W : World) (x : Int), Below w.heap.size w W → x ∈ l0 → Calls Try.prog g (#[.int .i64 x] ++ lb) W fun e w' => e = .returned (.bool (p x)) ∧ Below W.heap.size W w') :
    Calls Try.prog 167 #[.slice A0 n0 c0, .func (.func g) #[] lb] w fun e w' => e = .returned (.int .i64 (idxI p l0)) ∧ Below w.heap.size w w' := by
  obtain rfl := Kd.C_len hr0
  have hm : l0.length ≤ 9223372036854775807 := hr0.2.1
  have HR0 := dk hr0
  have HP := dk hp
  have HW := dk hB.size
  have HB0 := dk hB
  clear hr0 hp hB
  go_enter Try.func167, Try.ntmps167
  go_wp2
  go_loopg [5, 8] l0.length (fun gg _ s8 wr => ∃ kk : Nat, kk ≤ l0.length ∧ l0.length - kk ≤ gg ∧ s8 = .int .i64 kk ∧ Aside0 (Below w.heap.size w wr) ∧ Aside0 (∀ j, j < kk → p (rd l0 j) = false))
  case atStart => exact ⟨0, Nat.zero_le _, by omega, rfl, ⟨Below.refl _ w⟩, ⟨fun j hj => absurd hj (Nat.not_lt_zero _)⟩⟩
  case round =>
    obtain ⟨kk, hkk, hg, rfl, BW, HA⟩ := hrel
    by_cases hlt : kk < l0.length
    · have hltz : (kk : Int) < (l0.length : Int) := by omega
      obtain ⟨ad, ead, h0⟩ := Kd.at_int HR0.out kk (by omega) hltz
      subst ead
      have hb1 : Below w0.heap.size w0 wr := below_then HB0.out HW.out BW.out
      have hcall := HP.out wr (rd l0 kk) BW.out (by unfold rd; simp [hlt])
      replace h0 := pw_cell_below hb1 h0
      simp only [Int.toNat_natCast] at h0
      have HB1 := dk hb1
      clear hb1
      generalize hy : rd l0 kk = y at h0 hcall
      have B := dk hy
      clear hy
      cases hq : p y with
      | true =>
        rw [hq] at hcall
        have Q := dk hq
        have HC := dk hcall
        clear hq hcall
        go_wp2_with fail
        refine HC.out.mono ?_
        rintro e w' ⟨rfl, hb'⟩
        go_wp2_with fail
        go_ret
        refine ⟨?_, below_step BW.out hb'⟩
        rw [idxI_hit p l0 kk hlt 0 (by have := B.out; unfold rd at this; simp only [Int.toNat_natCast] at this; rw [this]; exact Q.out) (fun j hj => by have := HA.out j hj; unfold rd at this; simpa using this)]
        rfl
      | false =>
        rw [hq] at hcall
        have Q := dk hq
        have HC := dk hcall
        clear hq hcall
        go_wp2_with fail
        refine HC.out.mono ?_
        rintro e w' ⟨rfl, hb'⟩
        go_wp2_with fail
        go_roundg (l0.length - (kk + 1))
        case measure => omega
        case rel =>
          refine ⟨kk + 1, by omega, by omega, by go_num, ⟨below_step BW.out hb'⟩, ⟨fun j hj => ?_⟩⟩
          by_cases e : j = kk
          · subst e
            rw [B.out]; exact Q.out
          · exact HA.out j (by omega)
    · have hltz : ¬ (kk : Int) < (l0.length : Int) := by omega
      have hd : decide ((kk : Int) < (l0.length : Int)) = false := by simp; omega
      have hd2 : decide (kk < l0.length) = false := by simp; omega
      have hk := dk (show kk = l0.length by omega)
      clear hlt hltz hg
      go_wp2_with fail
      go_ret
      obtain rfl := hk.out
      refine ⟨?_, BW.out⟩
      rw [idxI_miss p l0 0 (fun j hj => by have := HA.out j hj; unfold rd at this; simpa using this)]
      rfl
set_option maxHeartbeats 4000000 in
theorem slices_ContainsFunc_int_int.calls (g : Nat) (lb : Array Value) (eg : ∀ args w, (callFunc g args).run Try.prog w = .ok (.enter g args) w) (p : Int → Bool) (A0 : Option Addr) (c0 n0 : Nat) (l0 : List (Int)) (w0 w : World) (hB : Below w0.heap.size w0 w) (hr0 : Kd.C (Kd.int .i64) w0 A0 n0 l0)
    (hp : ∀ (W : World) (x : Int), Below w.heap.size w W → x ∈ l0 → Calls Try.prog g (#[.int .i64 x] ++ lb) W fun e w' => e = .returned (.bool (p x)) ∧ Below W.heap.size W w') :
    Calls Try.prog 141 #[.slice A0 n0 c0, .func (.func g) #[] lb] w fun e w' => e = .returned (.bool (l0.any p)) ∧ Below w.heap.size w w' := by
  rw [← idxI_any p l0]
  have HC := dk (slices_IndexFunc_int_int.calls g lb eg p A0 c0 n0 l0 w0 w hB hr0 hp)
  clear hr0 hp hB eg
  generalize hy : idxI p l0 = y at HC
  have HY := dk hy
  clear hy
  go_enter Try.func141, Try.ntmps141
  go_wp2_with fail
  refine HC.out.mono ?_
  rintro e w' ⟨rfl, hb'⟩
  go_wp2_with fail
  go_ret
  exact ⟨rfl, hb'⟩
def impl_arePenalties.f (l0 : List Int) (a1 : Int) : Option Bool := some (decide ((l0.length : Int) = a1) && !l0.any (fun x => !withinB x 0 1000))
set_option maxHeartbeats 4000000 in
theorem impl_arePenalties_1.calls (x : Int) (W : World) : Calls Try.prog 166 #[.int .i64 x] W fun e w' => e = .returned (.bool (!withinB x 0 1000)) ∧ Below W.heap.size W w' := by
  have HW := dk (within_eq x 0 1000)
  generalize withinB x 0 1000 = b at HW
  go_enter Try.func166, Try.ntmps166
  go_wp2_with fail
  refine (impl_within.calls _ _ _ _ _ HW.out).mono ?_
  rintro e w' ⟨rfl, ⟨nd, rfl⟩⟩
  go_wp2_with fail
  go_ret
  exact ⟨rfl, pw_below_drewN (Below.refl _ _) _⟩
set_option maxHeartbeats 4000000 in
theorem impl_arePenalties.calls (A0 : Option Addr) (c0 : Nat) (l0 : List Int) (a1 : Int) (r : Bool) (w : World) (hr0 : Kd.C (Kd.int .i64) w A0 l0.length l0) (hc0 : l0.length ≤ c0) (h : impl_arePenalties.f l0 a1 = some r) :
    Calls Try.prog 125 #[.slice A0 l0.length c0, .int .i64 a1] w fun e w' => e = .returned (.bool r) ∧ Below w.heap.size w w' := by
  have HR := dk (Option.some.inj h)
  have HR0 := dk hr0
  clear h hr0 hc0
  have eg := my_enters Try.func166 (by kernel_rfl) rfl
  have HG := dk eg
  clear eg
  by_cases hn : (l0.length : Int) = a1
  · have hb : ((l0.length : Int) == a1) = true := by simpa using hn
    have HN := dk hn
    clear hn
    go_enter Try.func125, Try.ntmps125
    go_wp2_with fail
    refine ((slices_ContainsFunc_int_int.calls 166 #[] HG.out (fun x => !withinB x 0 1000) A0 c0 l0.length l0 w _ (Below.refl _ _) HR0.out (fun W x hW _ => impl_arePenalties_1.calls x W)).mono ?_)
    rintro e w2 ⟨rfl, hb2⟩
    have HB2 := dk hb2
    clear hb2
    generalize hi : l0.any (fun x => !withinB x 0 1000) = i at HR
    have HI := dk hi
    clear hi
    go_wp2_with fail
    go_ret
    exact ⟨by rw [← HR.out, decide_eq_true HN.out]; rfl, HB2.out⟩
  · have hb : ((l0.length : Int) == a1) = false := by simpa using hn
    have HN := dk hn
    clear hn
    go_enter Try.func125, Try.ntmps125
    go_wp2_with fail
    go_ret
    exact ⟨by rw [← HR.out, decide_eq_false HN.out]; rfl, Below.refl _ _⟩
def impl_BookOk.f (k : Nat) (l0_0 : List (S139)) (a0_1 : Int) (a0_2 : Int) (a0_3 : Int) (l0_4 : List Int) (a0_5 : Bool) (l0_6 : List (S95)) (l0_7 : List Int) (l0_8 : List Int) : Option (Bool) := (impl_FieldOk.f l0_0).bind fun t332 => (if t332 = true then ((impl_RulesOk.f k a0_1 a0_2 a0_3 l0_4 a0_5).bind fun t333 => (if t333 = true then ((impl_SeasonOk.f k (l0_0.length : Int) l0_6).bind fun t334 => (if t334 = true then ((impl_arePenalties.f l0_7 (l0_0.length : Int)).bind fun t335 => (if t335 = true then ((impl_arePenalties.f l0_8 (l0_0.length : Int)).bind fun t336 => (some t336)) else (some false))) else (some false))) else (some false))) else (some false))
theorem impl_BookOk.calls (k : Nat) (A0_0 : Option Addr) (c0_0 : Nat) (l0_0 : List (S139)) (a0_1 : Int) (a0_2 : Int) (a0_3 : Int) (A0_4 : Option Addr) (c0_4 : Nat) (l0_4 : List Int) (a0_5 : Bool) (A0_6 : Option Addr) (c0_6 : Nat) (l0_6 : List (S95)) (A0_7 : Option Addr) (c0_7 : Nat) (l0_7 : List Int) (A0_8 : Option Addr) (c0_8 : Nat) (l0_8 : List Int) (r : Bool) (w : World) (hr0_0 : Kd.C k139 w A0_0 l0_0.length l0_0) (hc0_0 : l0_0.length ≤ c0_0) (hr0_4 : Kd.C (Kd.int .i64) w A0_4 l0_4.length l0_4) (hc0_4 : l0_4.length ≤ c0_4) (hr0_6 : Kd.C k95 w A0_6 l0_6.length l0_6) (hc0_6 : l0_6.length ≤ c0_6) (hr0_7 : Kd.C (Kd.int .i64) w A0_7 l0_7.length l0_7) (hc0_7 : l0_7.length ≤ c0_7) (hr0_8 : Kd.C (Kd.int .i64) w A0_8 l0_8.length l0_8) (hc0_8 : l0_8.length ≤ c0_8) (h : impl_BookOk.f k l0_0 a0_1 a0_2 a0_3 l0_4 a0_5 l0_6 l0_7 l0_8 = some r) :
  Calls Try.prog 61 #[.agg #[.slice A0_0 l0_0.length c0_0, .int .i64 a0_1, .int .i64 a0_2, .int .i64 a0_3, .slice A0_4 l0_4.length c0_4, .bool a0_5, .slice A0_6 l0_6.length c0_6, .slice A0_7 l0_7.length c0_7, .slice A0_8 l0_8.length c0_8]] w fun e w' => e = .returned (.bool r) ∧ Below w.heap.size w w' := by
 have hu36 := Try.underlying36
 have hu33 := Try.underlying33
 have HR0_0 := dk hr0_0
 have HC0_0 := dk hc0_0
 clear hr0_0 hc0_0
 have HR0_4 := dk hr0_4
 have HC0_4 := dk hc0_4
 clear hr0_4 hc0_4
 have HR0_6 := dk hr0_6
 have HC0_6 := dk hc0_6
 clear hr0_6 hc0_6
 have HR0_7 := dk hr0_7
 have HC0_7 := dk hc0_7
 clear hr0_7 hc0_7
 have HR0_8 := dk hr0_8
 have HC0_8 := dk hc0_8
 clear hr0_8 hc0_8
 have HB := hb0 w
 have H : ((impl_FieldOk.f l0_0).bind fun t332 => (if t332 = true then ((impl_RulesOk.f k a0_1 a0_2 a0_3 l0_4 a0_5).bind fun t333 => (if t333 = true then ((impl_SeasonOk.f k (l0_0.length : Int) l0_6).bind fun t334 => (if t334 = true then ((impl_arePenalties.f l0_7 (l0_0.length : Int)).bind fun t335 => (if t335 = true then ((impl_arePenalties.f l0_8 (l0_0.length : Int)).bind fun t336 => (some t336)) else (some false))) else (some false))) else (some false))) else (some false))) = some r := h
 clear h
 replace H := Option.bind_eq_some_iff.mp H
 obtain ⟨t332, A20, H⟩ := H
 try dsimp only at H
 have A2 := dk A20
 clear A20
 by_cases c3 : t332 = true
 ·subst c3
  rw [if_pos rfl] at H
  replace H := Option.bind_eq_some_iff.mp H
  obtain ⟨t333, A40, H⟩ := H
  try dsimp only at H
  have A4 := dk A40
  clear A40
  by_cases c5 : t333 = true
  ·subst c5
   rw [if_pos rfl] at H
   replace H := Option.bind_eq_some_iff.mp H
   obtain ⟨t334, A60, H⟩ := H
   try dsimp only at H
   have A6 := dk A60
   clear A60
   by_cases c7 : t334 = true
   ·subst c7
    rw [if_pos rfl] at H
    replace H := Option.bind_eq_some_iff.mp H
    obtain ⟨t335, A80, H⟩ := H
    try dsimp only at H
    have A8 := dk A80
    clear A80
    by_cases c9 : t335 = true
    ·subst c9
     rw [if_pos rfl] at H
     replace H := Option.bind_eq_some_iff.mp H
     obtain ⟨t336, A100, H⟩ := H
     try dsimp only at H
     have A10 := dk A100
     clear A100
     obtain rfl := Option.some.inj H
     go_enter Try.func61, Try.ntmps61
     go_wp2_with (first | ((with_reducible refine gdst_ 1 rfl ?_); refine bx (N := 1) (cs := #[.slice A0_0 l0_0.length c0_0, .int .i64 a0_1, .int .i64 a0_2, .int .i64 a0_3, .slice A0_4 l0_4.length c0_4, .bool a0_5, .slice A0_6 l0_6.length c0_6, .slice A0_7 l0_7.length c0_7, .slice A0_8 l0_8.length c0_8]) (t := 36) ?_; intro gb331 hg w11 hbox hb; have BK331 := dk (hbox); have GW331 := gs hg HB; have GE331 := gs hg HB; replace HB := hs_ HB hb; clear hb hbox hg; have ⟨z12_0, z12_1, z12_2, z12_3, z12_4, z12_5, z12_6, z12_7, z12_8, v12_0, v12_1, v12_2, v12_3, v12_4, v12_5, v12_6, v12_7, v12_8⟩ := rz9 BK331) | ((with_reducible refine gcallee_ 122 rfl ?_); refine gl (some 9) Try.func122 #[.slice A0_0 l0_0.length c0_0] ?_; (with_reducible refine (impl_FieldOk.calls _ _ l0_0 true _ ?side1 ?side2 A2.out).mono ?_); (case side1 => exact cc HR0_0 HB); (case side2 => exact HC0_0.out); rintro e w13 ⟨rfl, hb⟩; refine ⟨_, rfl, ?_⟩; replace BK331 := kb BK331 hb; replace HB := hs_ HB hb; have ⟨z14_0, z14_1, z14_2, z14_3, z14_4, z14_5, z14_6, z14_7, z14_8, v14_0, v14_1, v14_2, v14_3, v14_4, v14_5, v14_6, v14_7, v14_8⟩ := rz9 BK331) | (go_at_call 123; (with_reducible refine (impl_RulesOk.calls k a0_1 a0_2 a0_3 _ _ l0_4 a0_5 true _ ?side1 ?side2 A4.out).mono ?_); (case side1 => exact cc HR0_4 HB); (case side2 => exact HC0_4.out); rintro e w15 ⟨rfl, hb⟩; replace BK331 := kb BK331 hb; replace HB := hs_ HB hb; have ⟨z16_0, z16_1, z16_2, z16_3, z16_4, z16_5, z16_6, z16_7, z16_8, v16_0, v16_1, v16_2, v16_3, v16_4, v16_5, v16_6, v16_7, v16_8⟩ := rz9 BK331) | (go_at_call 124; (with_reducible refine (impl_SeasonOk.calls k (l0_0.length : Int) _ _ l0_6 true _ ?side1 ?side2 A6.out).mono ?_); (case side1 => exact cc HR0_6 HB); (case side2 => exact HC0_6.out); rintro e w17 ⟨rfl, hb⟩; replace BK331 := kb BK331 hb; replace HB := hs_ HB hb; have ⟨z18_0, z18_1, z18_2, z18_3, z18_4, z18_5, z18_6, z18_7, z18_8, v18_0, v18_1, v18_2, v18_3, v18_4, v18_5, v18_6, v18_7, v18_8⟩ := rz9 BK331) | (go_at_call 125; (with_reducible refine (impl_arePenalties.calls _ _ l0_7 (l0_0.length : Int) true _ ?side1 ?side2 A8.out).mono ?_); (case side1 => exact cc HR0_7 HB); (case side2 => exact HC0_7.out); rintro e w19 ⟨rfl, hb⟩; replace BK331 := kb BK331 hb; replace HB := hs_ HB hb; have ⟨z20_0, z20_1, z20_2, z20_3, z20_4, z20_5, z20_6, z20_7, z20_8, v20_0, v20_1, v20_2, v20_3, v20_4, v20_5, v20_6, v20_7, v20_8⟩ := rz9 BK331) | (go_at_call 125; (with_reducible refine (impl_arePenalties.calls _ _ l0_8 (l0_0.length : Int) t336 _ ?side1 ?side2 A10.out).mono ?_); (case side1 => exact cc HR0_8 HB); (case side2 => exact HC0_8.out); rintro e w21 ⟨rfl, hb⟩; replace BK331 := kb BK331 hb; replace HB := hs_ HB hb))
     go_ret
     exact ⟨ee, bb HB⟩
    ·replace c9 := Bool.eq_false_iff.mpr c9
     subst c9
     rw [if_neg (show ¬ (false = true) by decide)] at H
     obtain rfl := Option.some.inj H
     go_enter Try.func61, Try.ntmps61
     go_wp2_with (first | ((with_reducible refine gdst_ 1 rfl ?_); refine bx (N := 1) (cs := #[.slice A0_0 l0_0.length c0_0, .int .i64 a0_1, .int .i64 a0_2, .int .i64 a0_3, .slice A0_4 l0_4.length c0_4, .bool a0_5, .slice A0_6 l0_6.length c0_6, .slice A0_7 l0_7.length c0_7, .slice A0_8 l0_8.length c0_8]) (t := 36) ?_; intro gb331 hg w22 hbox hb; have BK331 := dk (hbox); have GW331 := gs hg HB; have GE331 := gs hg HB; replace HB := hs_ HB hb; clear hb hbox hg; have ⟨z23_0, z23_1, z23_2, z23_3, z23_4, z23_5, z23_6, z23_7, z23_8, v23_0, v23_1, v23_2, v23_3, v23_4, v23_5, v23_6, v23_7, v23_8⟩ := rz9 BK331) | ((with_reducible refine gcallee_ 122 rfl ?_); refine gl (some 9) Try.func122 #[.slice A0_0 l0_0.length c0_0] ?_; (with_reducible refine (impl_FieldOk.calls _ _ l0_0 true _ ?side1 ?side2 A2.out).mono ?_); (case side1 => exact cc HR0_0 HB); (case side2 => exact HC0_0.out); rintro e w24 ⟨rfl, hb⟩; refine ⟨_, rfl, ?_⟩; replace BK331 := kb BK331 hb; replace HB := hs_ HB hb; have ⟨z25_0, z25_1, z25_2, z25_3, z25_4, z25_5, z25_6, z25_7, z25_8, v25_0, v25_1, v25_2, v25_3, v25_4, v25_5, v25_6, v25_7, v25_8⟩ := rz9 BK331) | (go_at_call 123; (with_reducible refine (impl_RulesOk.calls k a0_1 a0_2 a0_3 _ _ l0_4 a0_5 true _ ?side1 ?side2 A4.out).mono ?_); (case side1 => exact cc HR0_4 HB); (case side2 => exact HC0_4.out); rintro e w26 ⟨rfl, hb⟩; replace BK331 := kb BK331 hb; replace HB := hs_ HB hb; have ⟨z27_0, z27_1, z27_2, z27_3, z27_4, z27_5, z27_6, z27_7, z27_8, v27_0, v27_1, v27_2, v27_3, v27_4, v27_5, v27_6, v27_7, v27_8⟩ := rz9 BK331) | (go_at_call 124; (with_reducible refine (impl_SeasonOk.calls k (l0_0.length : Int) _ _ l0_6 true _ ?side1 ?side2 A6.out).mono ?_); (case side1 => exact cc HR0_6 HB); (case side2 => exact HC0_6.out); rintro e w28 ⟨rfl, hb⟩; replace BK331 := kb BK331 hb; replace HB := hs_ HB hb; have ⟨z29_0, z29_1, z29_2, z29_3, z29_4, z29_5, z29_6, z29_7, z29_8, v29_0, v29_1, v29_2, v29_3, v29_4, v29_5, v29_6, v29_7, v29_8⟩ := rz9 BK331) | (go_at_call 125; (with_reducible refine (impl_arePenalties.calls _ _ l0_7 (l0_0.length : Int) false _ ?side1 ?side2 A8.out).mono ?_); (case side1 => exact cc HR0_7 HB); (case side2 => exact HC0_7.out); rintro e w30 ⟨rfl, hb⟩; replace BK331 := kb BK331 hb; replace HB := hs_ HB hb))
     go_ret
     exact ⟨ee, bb HB⟩
   ·replace c7 := Bool.eq_false_iff.mpr c7
    subst c7
    rw [if_neg (show ¬ (false = true) by decide)] at H
    obtain rfl := Option.some.inj H
    go_enter Try.func61, Try.ntmps61
    go_wp2_with (first | ((with_reducible refine gdst_ 1 rfl ?_); refine bx (N := 1) (cs := #[.slice A0_0 l0_0.length c0_0, .int .i64 a0_1, .int .i64 a0_2, .int .i64 a0_3, .slice A0_4 l0_4.length c0_4, .bool a0_5, .slice A0_6 l0_6.length c0_6, .slice A0_7 l0_7.length c0_7, .slice A0_8 l0_8.length c0_8]) (t := 36) ?_; intro gb331 hg w31 hbox hb; have BK331 := dk (hbox); have GW331 := gs hg HB; have GE331 := gs hg HB; replace HB := hs_ HB hb; clear hb hbox hg; have ⟨z32_0, z32_1, z32_2, z32_3, z32_4, z32_5, z32_6, z32_7, z32_8, v32_0, v32_1, v32_2, v32_3, v32_4, v32_5, v32_6, v32_7, v32_8⟩ := rz9 BK331) | ((with_reducible refine gcallee_ 122 rfl ?_); refine gl (some 9) Try.func122 #[.slice A0_0 l0_0.length c0_0] ?_; (with_reducible refine (impl_FieldOk.calls _ _ l0_0 true _ ?side1 ?side2 A2.out).mono ?_); (case side1 => exact cc HR0_0 HB); (case side2 => exact HC0_0.out); rintro e w33 ⟨rfl, hb⟩; refine ⟨_, rfl, ?_⟩; replace BK331 := kb BK331 hb; replace HB := hs_ HB hb; have ⟨z34_0, z34_1, z34_2, z34_3, z34_4, z34_5, z34_6, z34_7, z34_8, v34_0, v34_1, v34_2, v34_3, v34_4, v34_5, v34_6, v34_7, v34_8⟩ := rz9 BK331) | (go_at_call 123; (with_reducible refine (impl_RulesOk.calls k a0_1 a0_2 a0_3 _ _ l0_4 a0_5 true _ ?side1 ?side2 A4.out).mono ?_); (case side1 => exact cc HR0_4 HB); (case side2 => exact HC0_4.out); rintro e w35 ⟨rfl, hb⟩; replace BK331 := kb BK331 hb; replace HB := hs_ HB hb; have ⟨z36_0, z36_1, z36_2, z36_3, z36_4, z36_5, z36_6, z36_7, z36_8, v36_0, v36_1, v36_2, v36_3, v36_4, v36_5, v36_6, v36_7, v36_8⟩ := rz9 BK331) | (go_at_call 124; (with_reducible refine (impl_SeasonOk.calls k (l0_0.length : Int) _ _ l0_6 false _ ?side1 ?side2 A6.out).mono ?_); (case side1 => exact cc HR0_6 HB); (case side2 => exact HC0_6.out); rintro e w37 ⟨rfl, hb⟩; replace BK331 := kb BK331 hb; replace HB := hs_ HB hb))
    go_ret
    exact ⟨ee, bb HB⟩
  ·replace c5 := Bool.eq_false_iff.mpr c5
   subst c5
   rw [if_neg (show ¬ (false = true) by decide)] at H
   obtain rfl := Option.some.inj H
   go_enter Try.func61, Try.ntmps61
   go_wp2_with (first | ((with_reducible refine gdst_ 1 rfl ?_); refine bx (N := 1) (cs := #[.slice A0_0 l0_0.length c0_0, .int .i64 a0_1, .int .i64 a0_2, .int .i64 a0_3, .slice A0_4 l0_4.length c0_4, .bool a0_5, .slice A0_6 l0_6.length c0_6, .slice A0_7 l0_7.length c0_7, .slice A0_8 l0_8.length c0_8]) (t := 36) ?_; intro gb331 hg w38 hbox hb; have BK331 := dk (hbox); have GW331 := gs hg HB; have GE331 := gs hg HB; replace HB := hs_ HB hb; clear hb hbox hg; have ⟨z39_0, z39_1, z39_2, z39_3, z39_4, z39_5, z39_6, z39_7, z39_8, v39_0, v39_1, v39_2, v39_3, v39_4, v39_5, v39_6, v39_7, v39_8⟩ := rz9 BK331) | ((with_reducible refine gcallee_ 122 rfl ?_); refine gl (some 9) Try.func122 #[.slice A0_0 l0_0.length c0_0] ?_; (with_reducible refine (impl_FieldOk.calls _ _ l0_0 true _ ?side1 ?side2 A2.out).mono ?_); (case side1 => exact cc HR0_0 HB); (case side2 => exact HC0_0.out); rintro e w40 ⟨rfl, hb⟩; refine ⟨_, rfl, ?_⟩; replace BK331 := kb BK331 hb; replace HB := hs_ HB hb; have ⟨z41_0, z41_1, z41_2, z41_3, z41_4, z41_5, z41_6, z41_7, z41_8, v41_0, v41_1, v41_2, v41_3, v41_4, v41_5, v41_6, v41_7, v41_8⟩ := rz9 BK331) | (go_at_call 123; (with_reducible refine (impl_RulesOk.calls k a0_1 a0_2 a0_3 _ _ l0_4 a0_5 false _ ?side1 ?side2 A4.out).mono ?_); (case side1 => exact cc HR0_4 HB); (case side2 => exact HC0_4.out); rintro e w42 ⟨rfl, hb⟩; replace BK331 := kb BK331 hb; replace HB := hs_ HB hb))
   go_ret
   exact ⟨ee, bb HB⟩
 ·replace c3 := Bool.eq_false_iff.mpr c3
  subst c3
  rw [if_neg (show ¬ (false = true) by decide)] at H
  obtain rfl := Option.some.inj H
  go_enter Try.func61, Try.ntmps61
  go_wp2_with (first | ((with_reducible refine gdst_ 1 rfl ?_); refine bx (N := 1) (cs := #[.slice A0_0 l0_0.length c0_0, .int .i64 a0_1, .int .i64 a0_2, .int .i64 a0_3, .slice A0_4 l0_4.length c0_4, .bool a0_5, .slice A0_6 l0_6.length c0_6, .slice A0_7 l0_7.length c0_7, .slice A0_8 l0_8.length c0_8]) (t := 36) ?_; intro gb331 hg w43 hbox hb; have BK331 := dk (hbox); have GW331 := gs hg HB; have GE331 := gs hg HB; replace HB := hs_ HB hb; clear hb hbox hg; have ⟨z44_0, z44_1, z44_2, z44_3, z44_4, z44_5, z44_6, z44_7, z44_8, v44_0, v44_1, v44_2, v44_3, v44_4, v44_5, v44_6, v44_7, v44_8⟩ := rz9 BK331) | ((with_reducible refine gcallee_ 122 rfl ?_); refine gl (some 9) Try.func122 #[.slice A0_0 l0_0.length c0_0] ?_; (with_reducible refine (impl_FieldOk.calls _ _ l0_0 false _ ?side1 ?side2 A2.out).mono ?_); (case side1 => exact cc HR0_0 HB); (case side2 => exact HC0_0.out); rintro e w45 ⟨rfl, hb⟩; refine ⟨_, rfl, ?_⟩; replace BK331 := kb BK331 hb; replace HB := hs_ HB hb))
  go_ret
  exact ⟨ee, bb HB⟩
def impl_IsSimple.f (k : Nat) (a0_0 : Int) (a0_1 : Int) (a0_2 : Int) (l0_3 : List Int) (a0_4 : Bool) : Option (Bool) := (impl_RulesOk.f k a0_0 a0_1 a0_2 l0_3 a0_4).bind fun t1486 => (if t1486 = true then (if a0_0 = 2 then (if a0_1 = 1 then (some (a0_2 == 0)) else (some false)) else (some false)) else (some false))
theorem impl_IsSimple.calls (k : Nat) (a0_0 : Int) (a0_1 : Int) (a0_2 : Int) (A0_3 : Option Addr) (c0_3 : Nat) (l0_3 : List Int) (a0_4 : Bool) (r : Bool) (w : World) (hr0_3 : Kd.C (Kd.int .i64) w A0_3 l0_3.length l0_3) (hc0_3 : l0_3.length ≤ c0_3) (h : impl_IsSimple.f k a0_0 a0_1 a0_2 l0_3 a0_4 = some r) :
  Calls Try.prog 140 #[.agg #[.int .i64 a0_0, .int .i64 a0_1, .int .i64 a0_2, .slice A0_3 l0_3.length c0_3, .bool a0_4]] w fun e w' => e = .returned (.bool r) ∧ Below w.heap.size w w' := by
 have hu33 := Try.underlying33
 have HR0_3 := dk hr0_3
 have HC0_3 := dk hc0_3
 clear hr0_3 hc0_3
 have HB := hb0 w
 have H : ((impl_RulesOk.f k a0_0 a0_1 a0_2 l0_3 a0_4).bind fun t1486 => (if t1486 = true then (if a0_0 = 2 then (if a0_1 = 1 then (some (a0_2 == 0)) else (some false)) else (some false)) else (some false))) = some r := h
 clear h
 replace H := Option.bind_eq_some_iff.mp H
 obtain ⟨t1486, A20, H⟩ := H
 try dsimp only at H
 have A2 := dk A20
 clear A20
 by_cases c3 : t1486 = true
 ·subst c3
  rw [if_pos rfl] at H
  by_cases c4 : a0_0 = 2
  ·rw [if_pos c4] at H
   have c4b0 := beq_iff_eq.mpr c4
   have c4b1 := bne_eq_false_iff_eq.mpr c4
   clear c4
   by_cases c5 : a0_1 = 1
   ·rw [if_pos c5] at H
    have c5b0 := beq_iff_eq.mpr c5
    have c5b1 := bne_eq_false_iff_eq.mpr c5
    clear c5
    obtain rfl := Option.some.inj H
    go_enter Try.func140, Try.ntmps140
    go_wp2_with (first | ((with_reducible refine gdst_ 1 rfl ?_); refine bx (N := 1) (cs := #[.int .i64 a0_0, .int .i64 a0_1, .int .i64 a0_2, .slice A0_3 l0_3.length c0_3, .bool a0_4]) (t := 33) ?_; intro gb1485 hg w6 hbox hb; have BK1485 := dk (hbox); have GW1485 := gs hg HB; have GE1485 := gs hg HB; replace HB := hs_ HB hb; clear hb hbox hg; have ⟨z7_0, z7_1, z7_2, z7_3, z7_4, v7_0, v7_1, v7_2, v7_3, v7_4⟩ := rz5 BK1485) | ((with_reducible refine gcallee_ 123 rfl ?_); refine gl (some 4) Try.func123 #[.agg #[.int .i64 a0_0, .int .i64 a0_1, .int .i64 a0_2, .slice A0_3 l0_3.length c0_3, .bool a0_4]] ?_; (with_reducible refine (impl_RulesOk.calls k a0_0 a0_1 a0_2 _ _ l0_3 a0_4 true _ ?side1 ?side2 A2.out).mono ?_); (case side1 => exact cc HR0_3 HB); (case side2 => exact HC0_3.out); rintro e w8 ⟨rfl, hb⟩; refine ⟨_, rfl, ?_⟩; replace BK1485 := kb BK1485 hb; replace HB := hs_ HB hb; have ⟨z9_0, z9_1, z9_2, z9_3, z9_4, v9_0, v9_1, v9_2, v9_3, v9_4⟩ := rz5 BK1485))
    go_ret
    exact ⟨ee, bb HB⟩
   ·rw [if_neg c5] at H
    have c5b0 := beq_eq_false_iff_ne.mpr c5
    have c5b1 := bne_iff_ne.mpr c5
    obtain rfl := Option.some.inj H
    go_enter Try.func140, Try.ntmps140
    go_wp2_with (first | ((with_reducible refine gdst_ 1 rfl ?_); refine bx (N := 1) (cs := #[.int .i64 a0_0, .int .i64 a0_1, .int .i64 a0_2, .slice A0_3 l0_3.length c0_3, .bool a0_4]) (t := 33) ?_; intro gb1485 hg w10 hbox hb; have BK1485 := dk (hbox); have GW1485 := gs hg HB; have GE1485 := gs hg HB; replace HB := hs_ HB hb; clear hb hbox hg; have ⟨z11_0, z11_1, z11_2, z11_3, z11_4, v11_0, v11_1, v11_2, v11_3, v11_4⟩ := rz5 BK1485) | ((with_reducible refine gcallee_ 123 rfl ?_); refine gl (some 4) Try.func123 #[.agg #[.int .i64 a0_0, .int .i64 a0_1, .int .i64 a0_2, .slice A0_3 l0_3.length c0_3, .bool a0_4]] ?_; (with_reducible refine (impl_RulesOk.calls k a0_0 a0_1 a0_2 _ _ l0_3 a0_4 true _ ?side1 ?side2 A2.out).mono ?_); (case side1 => exact cc HR0_3 HB); (case side2 => exact HC0_3.out); rintro e w12 ⟨rfl, hb⟩; refine ⟨_, rfl, ?_⟩; replace BK1485 := kb BK1485 hb; replace HB := hs_ HB hb; have ⟨z13_0, z13_1, z13_2, z13_3, z13_4, v13_0, v13_1, v13_2, v13_3, v13_4⟩ := rz5 BK1485))
    go_ret
    exact ⟨ee, bb HB⟩
  ·rw [if_neg c4] at H
   have c4b0 := beq_eq_false_iff_ne.mpr c4
   have c4b1 := bne_iff_ne.mpr c4
   obtain rfl := Option.some.inj H
   go_enter Try.func140, Try.ntmps140
   go_wp2_with (first | ((with_reducible refine gdst_ 1 rfl ?_); refine bx (N := 1) (cs := #[.int .i64 a0_0, .int .i64 a0_1, .int .i64 a0_2, .slice A0_3 l0_3.length c0_3, .bool a0_4]) (t := 33) ?_; intro gb1485 hg w14 hbox hb; have BK1485 := dk (hbox); have GW1485 := gs hg HB; have GE1485 := gs hg HB; replace HB := hs_ HB hb; clear hb hbox hg; have ⟨z15_0, z15_1, z15_2, z15_3, z15_4, v15_0, v15_1, v15_2, v15_3, v15_4⟩ := rz5 BK1485) | ((with_reducible refine gcallee_ 123 rfl ?_); refine gl (some 4) Try.func123 #[.agg #[.int .i64 a0_0, .int .i64 a0_1, .int .i64 a0_2, .slice A0_3 l0_3.length c0_3, .bool a0_4]] ?_; (with_reducible refine (impl_RulesOk.calls k a0_0 a0_1 a0_2 _ _ l0_3 a0_4 true _ ?side1 ?side2 A2.out).mono ?_); (case side1 => exact cc HR0_3 HB); (case side2 => exact HC0_3.out); rintro e w16 ⟨rfl, hb⟩; refine ⟨_, rfl, ?_⟩; replace BK1485 := kb BK1485 hb; replace HB := hs_ HB hb; have ⟨z17_0, z17_1, z17_2, z17_3, z17_4, v17_0, v17_1, v17_2, v17_3, v17_4⟩ := rz5 BK1485))
   go_ret
   exact ⟨ee, bb HB⟩
 ·replace c3 := Bool.eq_false_iff.mpr c3
  subst c3
  rw [if_neg (show ¬ (false = true) by decide)] at H
  obtain rfl := Option.some.inj H
  go_enter Try.func140, Try.ntmps140
  go_wp2_with (first | ((with_reducible refine gdst_ 1 rfl ?_); refine bx (N := 1) (cs := #[.int .i64 a0_0, .int .i64 a0_1, .int .i64 a0_2, .slice A0_3 l0_3.length c0_3, .bool a0_4]) (t := 33) ?_; intro gb1485 hg w18 hbox hb; have BK1485 := dk (hbox); have GW1485 := gs hg HB; have GE1485 := gs hg HB; replace HB := hs_ HB hb; clear hb hbox hg; have ⟨z19_0, z19_1, z19_2, z19_3, z19_4, v19_0, v19_1, v19_2, v19_3, v19_4⟩ := rz5 BK1485) | ((with_reducible refine gcallee_ 123 rfl ?_); refine gl (some 4) Try.func123 #[.agg #[.int .i64 a0_0, .int .i64 a0_1, .int .i64 a0_2, .slice A0_3 l0_3.length c0_3, .bool a0_4]] ?_; (with_reducible refine (impl_RulesOk.calls k a0_0 a0_1 a0_2 _ _ l0_3 a0_4 false _ ?side1 ?side2 A2.out).mono ?_); (case side1 => exact cc HR0_3 HB); (case side2 => exact HC0_3.out); rintro e w20 ⟨rfl, hb⟩; refine ⟨_, rfl, ?_⟩; replace BK1485 := kb BK1485 hb; replace HB := hs_ HB hb))
  go_ret
  exact ⟨ee, bb HB⟩
def impl_isLead.f (k : Nat) (l0_0 : List (S139)) (a0_1 : Int) (a0_2 : Int) (a0_3 : Int) (l0_4 : List Int) (a0_5 : Bool) (l0_6 : List (S95)) (l0_7 : List Int) (l0_8 : List Int) (a1 : Int) : Option (Bool) := (impl_BookOk.f k l0_0 a0_1 a0_2 a0_3 l0_4 a0_5 l0_6 l0_7 l0_8).bind fun t1488 => (if t1488 = true then ((impl_IsSimple.f k a0_1 a0_2 a0_3 l0_4 a0_5).bind fun t1489 => (if t1489 = true then ((impl_isTeam.f l0_0 a0_1 a0_2 a0_3 l0_4 a0_5 l0_6 l0_7 l0_8 a1).bind fun t1490 => (some t1490)) else (some false))) else (some false))
theorem impl_isLead.calls (k : Nat) (A0_0 : Option Addr) (c0_0 : Nat) (l0_0 : List (S139)) (a0_1 : Int) (a0_2 : Int) (a0_3 : Int) (A0_4 : Option Addr) (c0_4 : Nat) (l0_4 : List Int) (a0_5 : Bool) (A0_6 : Option Addr) (c0_6 : Nat) (l0_6 : List (S95)) (A0_7 : Option Addr) (c0_7 : Nat) (l0_7 : List Int) (A0_8 : Option Addr) (c0_8 : Nat) (l0_8 : List Int) (a1 : Int) (r : Bool) (w : World) (hr0_0 : Kd.C k139 w A0_0 l0_0.length l0_0) (hc0_0 : l0_0.length ≤ c0_0) (hr0_4 : Kd.C (Kd.int .i64) w A0_4 l0_4.length l0_4) (hc0_4 : l0_4.length ≤ c0_4) (hr0_6 : Kd.C k95 w A0_6 l0_6.length l0_6) (hc0_6 : l0_6.length ≤ c0_6) (hr0_7 : Kd.C (Kd.int .i64) w A0_7 l0_7.length l0_7) (hc0_7 : l0_7.length ≤ c0_7) (hr0_8 : Kd.C (Kd.int .i64) w A0_8 l0_8.length l0_8) (hc0_8 : l0_8.length ≤ c0_8) (h : impl_isLead.f k l0_0 a0_1 a0_2 a0_3 l0_4 a0_5 l0_6 l0_7 l0_8 a1 = some r) :
  Calls Try.prog 89 #[.agg #[.slice A0_0 l0_0.length c0_0, .int .i64 a0_1, .int .i64 a0_2, .int .i64 a0_3, .slice A0_4 l0_4.length c0_4, .bool a0_5, .slice A0_6 l0_6.length c0_6, .slice A0_7 l0_7.length c0_7, .slice A0_8 l0_8.length c0_8], .int .i64 a1] w fun e w' => e = .returned (.bool r) ∧ Below w.heap.size w w' := by
 have hu36 := Try.underlying36
 have hu33 := Try.underlying33
 have HR0_0 := dk hr0_0
 have HC0_0 := dk hc0_0
 clear hr0_0 hc0_0
 have HR0_4 := dk hr0_4
 have HC0_4 := dk hc0_4
 clear hr0_4 hc0_4
 have HR0_6 := dk hr0_6
 have HC0_6 := dk hc0_6
 clear hr0_6 hc0_6
 have HR0_7 := dk hr0_7
 have HC0_7 := dk hc0_7
 clear hr0_7 hc0_7
 have HR0_8 := dk hr0_8
 have HC0_8 := dk hc0_8
 clear hr0_8 hc0_8
 have HB := hb0 w
 have H : ((impl_BookOk.f k l0_0 a0_1 a0_2 a0_3 l0_4 a0_5 l0_6 l0_7 l0_8).bind fun t1488 => (if t1488 = true then ((impl_IsSimple.f k a0_1 a0_2 a0_3 l0_4 a0_5).bind fun t1489 => (if t1489 = true then ((impl_isTeam.f l0_0 a0_1 a0_2 a0_3 l0_4 a0_5 l0_6 l0_7 l0_8 a1).bind fun t1490 => (some t1490)) else (some false))) else (some false))) = some r := h
 clear h
 replace H := Option.bind_eq_some_iff.mp H
 obtain ⟨t1488, A30, H⟩ := H
 try dsimp only at H
 have A3 := dk A30
 clear A30
 by_cases c4 : t1488 = true
 ·subst c4
  rw [if_pos rfl] at H
  replace H := Option.bind_eq_some_iff.mp H
  obtain ⟨t1489, A50, H⟩ := H
  try dsimp only at H
  have A5 := dk A50
  clear A50
  by_cases c6 : t1489 = true
  ·subst c6
   rw [if_pos rfl] at H
   replace H := Option.bind_eq_some_iff.mp H
   obtain ⟨t1490, A70, H⟩ := H
   try dsimp only at H
   have A7 := dk A70
   clear A70
   obtain rfl := Option.some.inj H
   go_enter Try.func89, Try.ntmps89
   go_wp2_with (first | ((with_reducible refine gdst_ 2 rfl ?_); refine bx (N := 2) (cs := #[.slice A0_0 l0_0.length c0_0, .int .i64 a0_1, .int .i64 a0_2, .int .i64 a0_3, .slice A0_4 l0_4.length c0_4, .bool a0_5, .slice A0_6 l0_6.length c0_6, .slice A0_7 l0_7.length c0_7, .slice A0_8 l0_8.length c0_8]) (t := 36) ?_; intro gb1487 hg w8 hbox hb; have BK1487 := dk (hbox); have GW1487 := gs hg HB; have GE1487 := gs hg HB; replace HB := hs_ HB hb; clear hb hbox hg; have ⟨z9_0, z9_1, z9_2, z9_3, z9_4, z9_5, z9_6, z9_7, z9_8, v9_0, v9_1, v9_2, v9_3, v9_4, v9_5, v9_6, v9_7, v9_8⟩ := rz9 BK1487) | ((with_reducible refine gcallee_ 61 rfl ?_); refine gl (some 6) Try.func61 #[.agg #[.slice A0_0 l0_0.length c0_0, .int .i64 a0_1, .int .i64 a0_2, .int .i64 a0_3, .slice A0_4 l0_4.length c0_4, .bool a0_5, .slice A0_6 l0_6.length c0_6, .slice A0_7 l0_7.length c0_7, .slice A0_8 l0_8.length c0_8]] ?_; (with_reducible refine (impl_BookOk.calls k _ _ l0_0 a0_1 a0_2 a0_3 _ _ l0_4 a0_5 _ _ l0_6 _ _ l0_7 _ _ l0_8 true _ ?side1 ?side2 ?side3 ?side4 ?side5 ?side6 ?side7 ?side8 ?side9 ?side10 A3.out).mono ?_); (case side1 => exact cc HR0_0 HB); (case side2 => exact HC0_0.out); (case side3 => exact cc HR0_4 HB); (case side4 => exact HC0_4.out); (case side5 => exact cc HR0_6 HB); (case side6 => exact HC0_6.out); (case side7 => exact cc HR0_7 HB); (case side8 => exact HC0_7.out); (case side9 => exact cc HR0_8 HB); (case side10 => exact HC0_8.out); rintro e w10 ⟨rfl, hb⟩; refine ⟨_, rfl, ?_⟩; replace BK1487 := kb BK1487 hb; replace HB := hs_ HB hb; have ⟨z11_0, z11_1, z11_2, z11_3, z11_4, z11_5, z11_6, z11_7, z11_8, v11_0, v11_1, v11_2, v11_3, v11_4, v11_5, v11_6, v11_7, v11_8⟩ := rz9 BK1487) | (go_at_call 140; (with_reducible refine (impl_IsSimple.calls k a0_1 a0_2 a0_3 _ _ l0_4 a0_5 true _ ?side1 ?side2 A5.out).mono ?_); (case side1 => exact cc HR0_4 HB); (case side2 => exact HC0_4.out); rintro e w12 ⟨rfl, hb⟩; replace BK1487 := kb BK1487 hb; replace HB := hs_ HB hb; have ⟨z13_0, z13_1, z13_2, z13_3, z13_4, z13_5, z13_6, z13_7, z13_8, v13_0, v13_1, v13_2, v13_3, v13_4, v13_5, v13_6, v13_7, v13_8⟩ := rz9 BK1487) | (go_at_call 78; (with_reducible refine (impl_isTeam.calls _ _ l0_0 a0_1 a0_2 a0_3 _ _ l0_4 a0_5 _ _ l0_6 _ _ l0_7 _ _ l0_8 a1 t1490 _ ?side1 ?side2 ?side3 ?side4 ?side5 ?side6 ?side7 ?side8 ?side9 ?side10 A7.out).mono ?_); (case side1 => exact cc HR0_0 HB); (case side2 => exact HC0_0.out); (case side3 => exact cc HR0_4 HB); (case side4 => exact HC0_4.out); (case side5 => exact cc HR0_6 HB); (case side6 => exact HC0_6.out); (case side7 => exact cc HR0_7 HB); (case side8 => exact HC0_7.out); (case side9 => exact cc HR0_8 HB); (case side10 => exact HC0_8.out); rintro e w14 ⟨rfl, hb⟩; replace BK1487 := kb BK1487 hb; replace HB := hs_ HB hb))
   go_ret
   exact ⟨ee, bb HB⟩
  ·replace c6 := Bool.eq_false_iff.mpr c6
   subst c6
   rw [if_neg (show ¬ (false = true) by decide)] at H
   obtain rfl := Option.some.inj H
   go_enter Try.func89, Try.ntmps89
   go_wp2_with (first | ((with_reducible refine gdst_ 2 rfl ?_); refine bx (N := 2) (cs := #[.slice A0_0 l0_0.length c0_0, .int .i64 a0_1, .int .i64 a0_2, .int .i64 a0_3, .slice A0_4 l0_4.length c0_4, .bool a0_5, .slice A0_6 l0_6.length c0_6, .slice A0_7 l0_7.length c0_7, .slice A0_8 l0_8.length c0_8]) (t := 36) ?_; intro gb1487 hg w15 hbox hb; have BK1487 := dk (hbox); have GW1487 := gs hg HB; have GE1487 := gs hg HB; replace HB := hs_ HB hb; clear hb hbox hg; have ⟨z16_0, z16_1, z16_2, z16_3, z16_4, z16_5, z16_6, z16_7, z16_8, v16_0, v16_1, v16_2, v16_3, v16_4, v16_5, v16_6, v16_7, v16_8⟩ := rz9 BK1487) | ((with_reducible refine gcallee_ 61 rfl ?_); refine gl (some 6) Try.func61 #[.agg #[.slice A0_0 l0_0.length c0_0, .int .i64 a0_1, .int .i64 a0_2, .int .i64 a0_3, .slice A0_4 l0_4.length c0_4, .bool a0_5, .slice A0_6 l0_6.length c0_6, .slice A0_7 l0_7.length c0_7, .slice A0_8 l0_8.length c0_8]] ?_; (with_reducible refine (impl_BookOk.calls k _ _ l0_0 a0_1 a0_2 a0_3 _ _ l0_4 a0_5 _ _ l0_6 _ _ l0_7 _ _ l0_8 true _ ?side1 ?side2 ?side3 ?side4 ?side5 ?side6 ?side7 ?side8 ?side9 ?side10 A3.out).mono ?_); (case side1 => exact cc HR0_0 HB); (case side2 => exact HC0_0.out); (case side3 => exact cc HR0_4 HB); (case side4 => exact HC0_4.out); (case side5 => exact cc HR0_6 HB); (case side6 => exact HC0_6.out); (case side7 => exact cc HR0_7 HB); (case side8 => exact HC0_7.out); (case side9 => exact cc HR0_8 HB); (case side10 => exact HC0_8.out); rintro e w17 ⟨rfl, hb⟩; refine ⟨_, rfl, ?_⟩; replace BK1487 := kb BK1487 hb; replace HB := hs_ HB hb; have ⟨z18_0, z18_1, z18_2, z18_3, z18_4, z18_5, z18_6, z18_7, z18_8, v18_0, v18_1, v18_2, v18_3, v18_4, v18_5, v18_6, v18_7, v18_8⟩ := rz9 BK1487) | (go_at_call 140; (with_reducible refine (impl_IsSimple.calls k a0_1 a0_2 a0_3 _ _ l0_4 a0_5 false _ ?side1 ?side2 A5.out).mono ?_); (case side1 => exact cc HR0_4 HB); (case side2 => exact HC0_4.out); rintro e w19 ⟨rfl, hb⟩; replace BK1487 := kb BK1487 hb; replace HB := hs_ HB hb))
   go_ret
   exact ⟨ee, bb HB⟩
 ·replace c4 := Bool.eq_false_iff.mpr c4
  subst c4
  rw [if_neg (show ¬ (false = true) by decide)] at H
  obtain rfl := Option.some.inj H
  go_enter Try.func89, Try.ntmps89
  go_wp2_with (first | ((with_reducible refine gdst_ 2 rfl ?_); refine bx (N := 2) (cs := #[.slice A0_0 l0_0.length c0_0, .int .i64 a0_1, .int .i64 a0_2, .int .i64 a0_3, .slice A0_4 l0_4.length c0_4, .bool a0_5, .slice A0_6 l0_6.length c0_6, .slice A0_7 l0_7.length c0_7, .slice A0_8 l0_8.length c0_8]) (t := 36) ?_; intro gb1487 hg w20 hbox hb; have BK1487 := dk (hbox); have GW1487 := gs hg HB; have GE1487 := gs hg HB; replace HB := hs_ HB hb; clear hb hbox hg; have ⟨z21_0, z21_1, z21_2, z21_3, z21_4, z21_5, z21_6, z21_7, z21_8, v21_0, v21_1, v21_2, v21_3, v21_4, v21_5, v21_6, v21_7, v21_8⟩ := rz9 BK1487) | ((with_reducible refine gcallee_ 61 rfl ?_); refine gl (some 6) Try.func61 #[.agg #[.slice A0_0 l0_0.length c0_0, .int .i64 a0_1, .int .i64 a0_2, .int .i64 a0_3, .slice A0_4 l0_4.length c0_4, .bool a0_5, .slice A0_6 l0_6.length c0_6, .slice A0_7 l0_7.length c0_7, .slice A0_8 l0_8.length c0_8]] ?_; (with_reducible refine (impl_BookOk.calls k _ _ l0_0 a0_1 a0_2 a0_3 _ _ l0_4 a0_5 _ _ l0_6 _ _ l0_7 _ _ l0_8 false _ ?side1 ?side2 ?side3 ?side4 ?side5 ?side6 ?side7 ?side8 ?side9 ?side10 A3.out).mono ?_); (case side1 => exact cc HR0_0 HB); (case side2 => exact HC0_0.out); (case side3 => exact cc HR0_4 HB); (case side4 => exact HC0_4.out); (case side5 => exact cc HR0_6 HB); (case side6 => exact HC0_6.out); (case side7 => exact cc HR0_7 HB); (case side8 => exact HC0_7.out); (case side9 => exact cc HR0_8 HB); (case side10 => exact HC0_8.out); rintro e w22 ⟨rfl, hb⟩; refine ⟨_, rfl, ?_⟩; replace BK1487 := kb BK1487 hb; replace HB := hs_ HB hb))
  go_ret
  exact ⟨ee, bb HB⟩
def impl_areOutcomes.f (l0 : List Int) (a1 : Int) : Option Bool := some (decide ((l0.length : Int) = a1) && !l0.any (fun x => !withinB x 1 3))
set_option maxHeartbeats 4000000 in
theorem impl_areOutcomes_1.calls (x : Int) (W : World) : Calls Try.prog 142 #[.int .i64 x] W fun e w' => e = .returned (.bool (!withinB x 1 3)) ∧ Below W.heap.size W w' := by
  have HW := dk (within_eq x 1 3)
  generalize withinB x 1 3 = b at HW
  go_enter Try.func142, Try.ntmps142
  go_wp2_with fail
  refine (impl_within.calls _ _ _ _ _ HW.out).mono ?_
  rintro e w' ⟨rfl, ⟨nd, rfl⟩⟩
  go_wp2_with fail
  go_ret
  exact ⟨rfl, pw_below_drewN (Below.refl _ _) _⟩
set_option maxHeartbeats 4000000 in
theorem impl_areOutcomes.calls (A0 : Option Addr) (c0 : Nat) (l0 : List Int) (a1 : Int) (r : Bool) (w : World) (hr0 : Kd.C (Kd.int .i64) w A0 l0.length l0) (hc0 : l0.length ≤ c0) (h : impl_areOutcomes.f l0 a1 = some r) :
    Calls Try.prog 90 #[.slice A0 l0.length c0, .int .i64 a1] w fun e w' => e = .returned (.bool r) ∧ Below w.heap.size w w' := by
  have HR := dk (Option.some.inj h)
  have HR0 := dk hr0
  clear h hr0 hc0
  have eg := my_enters Try.func142 (by kernel_rfl) rfl
  have HG := dk eg
  clear eg
  by_cases hn : (l0.length : Int) = a1
  · have hb : ((l0.length : Int) == a1) = true := by simpa using hn
    have HN := dk hn
    clear hn
    go_enter Try.func90, Try.ntmps90
    go_wp2_with fail
    refine ((slices_ContainsFunc_int_int.calls 142 #[] HG.out (fun x => !withinB x 1 3) A0 c0 l0.length l0 w _ (Below.refl _ _) HR0.out (fun W x hW _ => impl_areOutcomes_1.calls x W)).mono ?_)
    rintro e w2 ⟨rfl, hb2⟩
    have HB2 := dk hb2
    clear hb2
    generalize hi : l0.any (fun x => !withinB x 1 3) = i at HR
    have HI := dk hi
    clear hi
    go_wp2_with fail
    go_ret
    exact ⟨by rw [← HR.out, decide_eq_true HN.out]; rfl, HB2.out⟩
  · have hb : ((l0.length : Int) == a1) = false := by simpa using hn
    have HN := dk hn
    clear hn
    go_enter Try.func90, Try.ntmps90
    go_wp2_with fail
    go_ret
    exact ⟨by rw [← HR.out, decide_eq_false HN.out]; rfl, Below.refl _ _⟩
def impl_IsOpen.f (a0_0 : Int) (a0_1 : Int) (a0_2 : Int) (a0_3 : Int) (a0_4 : Int) : Option (Bool) := some (a0_4 == 0)
theorem impl_IsOpen.calls (a0_0 : Int) (a0_1 : Int) (a0_2 : Int) (a0_3 : Int) (a0_4 : Int) (r : Bool) (w : World) (h : impl_IsOpen.f a0_0 a0_1 a0_2 a0_3 a0_4 = some r) :
  Calls Try.prog 81 #[.agg #[.int .i64 a0_0, .int .i64 a0_1, .int .i64 a0_2, .int .i64 a0_3, .int .i64 a0_4]] w fun e w' => e = .returned (.bool r) ∧ Below w.heap.size w w' := by
 have hu95 := Try.underlying95
 have HB := hb0 w
 have H : (some (a0_4 == 0)) = some r := h
 clear h
 obtain rfl := Option.some.inj H
 go_enter Try.func81, Try.ntmps81
 go_wp2_with (first | ((with_reducible refine gdst_ 1 rfl ?_); refine bx (N := 1) (cs := #[.int .i64 a0_0, .int .i64 a0_1, .int .i64 a0_2, .int .i64 a0_3, .int .i64 a0_4]) (t := 95) ?_; intro gb909 hg w2 hbox hb; have BK909 := dk (hbox); have GW909 := gs hg HB; have GE909 := gs hg HB; replace HB := hs_ HB hb; clear hb hbox hg; have ⟨z3_0, z3_1, z3_2, z3_3, z3_4, v3_0, v3_1, v3_2, v3_3, v3_4⟩ := rz5 BK909))
 go_ret
 exact ⟨ee, bb HB⟩
def whereI {α : Type} (p : α → Bool) : Int → List α → List Int
  | _, [] => []
  | i, x :: l => (if p x then [i] else []) ++ whereI p (i + 1) l
set_option maxHeartbeats 4000000 in
theorem impl_gamesWhere.calls (g : Nat) (lb : Array Value) (eg : ∀ args w, (callFunc g args).run Try.prog w = .ok (.enter g args) w) (p : S95 → Bool) (A0 : Option Addr) (c0 n0 : Nat) (l0 : List (S95)) (w : World) (hr0 : Kd.C k95 w A0 n0 l0) (hz : l0.length < 17592186044416)
    (hp : ∀ (W : World) (x : S95), Below w.heap.size w W → x ∈ l0 → Calls Try.prog g (#[.agg #[.int .i64 x.f0, .int .i64 x.f1, .int .i64 x.f2, .int .i64 x.f3, .int .i64 x.f4]] ++ lb) W fun e w' => e = .returned (.bool (p x)) ∧ Below W.heap.size W w') :
    Calls Try.prog 143 #[.slice A0 n0 c0, .func (.func g) #[] lb] w fun e w' => ∃ v0_ : Value, e = .returned v0_ ∧ Kd.R (Kd.int .i64) 3 w' w.heap.size (fun _ => True) v0_ (whereI p 0 l0) ∧ Below w.heap.size w w' := by
  obtain rfl := Kd.C_len hr0
  have hm : l0.length ≤ 9223372036854775807 := hr0.2.1
  have HR0 := dk hr0
  have HP := dk hp
  have HZ := dk hz
  have HG := dk eg
  clear hr0 hp hz eg
  have HB := hb0 w
  go_enter Try.func143, Try.ntmps143
  go_wp2_with (first | ((with_reducible refine gdst_ 8 rfl ?_); refine Kd.R_lit (Kd.int .i64) _ 3 ?hg (N := 8) ?hd (xs := ([] : List Int)) (inner := []) (ok := fun _ => True) (okp := fun _ => True) ?hr ?hp (fun _ hk => hk) trivial (Below.refl _ _) (Nat.le_refl _) (by simp) ?_; (case hd => rfl); (case hg => rfl); (case hr => first | (go_simp; done) | (go_simp; rfl)); (case hp => exact (Reps.none _ _)); intro v507 w3 ho4 hb hg_ hnew_; clear hg_ hnew_; have n0_ := dk (Kd.R_lower ho4 (below_size HB.out)); have n1_ := dk (below_step HB.out hb); clear HB; have HO := n0_; have HB := n1_; clear n0_ n1_; clear hb ho4))
  go_loopg [5, 6, 7, 11] l0.length (fun gg v5 _ _ s11 wr => ∃ (kk : Nat) (ys : List Int), kk ≤ l0.length ∧ l0.length - kk ≤ gg ∧ s11 = .int .i64 kk ∧ Aside0 (whereI p 0 l0 = ys ++ whereI p kk (l0.drop kk)) ∧ Aside0 (ys.length ≤ kk) ∧ Aside0 (Kd.R (Kd.int .i64) 3 wr w.heap.size (fun _ => True) v5 ys) ∧ Aside0 (Below w.heap.size w wr))
  case atStart => exact ⟨0, [], Nat.zero_le _, by omega, rfl, ⟨by simp⟩, ⟨by simp⟩, HO, HB⟩
  case round =>
    obtain ⟨kk, ys, hkk, hg, rfl, HA, HL, HO, HB⟩ := hrel
    by_cases hlt : kk < l0.length
    · have hltz : (kk : Int) < (l0.length : Int) := by omega
      obtain ⟨ad, ead, h0, h1, h2, h3, h4⟩ := at_T95 HR0.out kk (by omega) hltz
      subst ead
      replace h0 := pw_cell_below HB.out h0
      replace h1 := pw_cell_below HB.out h1
      replace h2 := pw_cell_below HB.out h2
      replace h3 := pw_cell_below HB.out h3
      replace h4 := pw_cell_below HB.out h4
      simp only [Int.toNat_natCast] at h0 h1 h2 h3 h4
      have hd : l0.drop kk = rd_T95 l0 kk :: l0.drop (kk + 1) := by
        unfold rd_T95
        simp only [Int.toNat_natCast]
        rw [List.drop_eq_getElem_cons hlt]
        simp [hlt]
      have HA1 := dk (show whereI p 0 l0 = (ys ++ if p (rd_T95 l0 kk) then [(kk : Int)] else []) ++ whereI p ((kk + 1 : Nat) : Int) (l0.drop (kk + 1)) by rw [HA.out, hd, whereI, List.append_assoc]; rfl)
      have HC := dk (fun W hW => HP.out W (rd_T95 l0 kk) hW (by unfold rd_T95; simp [hlt]))
      clear hd
      generalize rd_T95 l0 kk = t at h0 h1 h2 h3 h4 HA1 HC
      have eg := HG.out
      go_wp2_with fail
      clear eg
      refine (HC.out _ (below_alloc HB.out _)).mono ?_
      rintro e w1 ⟨rfl, hb1⟩
      have HO1 := dk (Kd.R_below (Kd.R_below HO.out (below_alloc (Below.refl _ _) (Obj.cells #[Value.int .i64 t.f0, Value.int .i64 t.f1, Value.int .i64 t.f2, Value.int .i64 t.f3, Value.int .i64 t.f4] 95))) hb1)
      have HB1 := dk (below_step (below_alloc HB.out (Obj.cells #[Value.int .i64 t.f0, Value.int .i64 t.f1, Value.int .i64 t.f2, Value.int .i64 t.f3, Value.int .i64 t.f4] 95)) hb1)
      clear hb1
      cases hq : p t with
      | true =>
        have HA2 := dk (show whereI p 0 l0 = (ys ++ [(kk : Int)]) ++ whereI p ((kk + 1 : Nat) : Int) (l0.drop (kk + 1)) by rw [HA1.out, hq]; rfl)
        clear hq
        go_wp2_with (first | ((with_reducible refine gate_builtin (b := .append) (xs := #[.tmp 19, .tmp 21]) rfl ?_); at_builtin; refine Kd.R_append (Kd.int .i64) (w0 := w) w.heap.size rfl (.tmp 19) (.tmp 21) 23 3 (.int .i64 0) 8 rfl Try.underlying23 info3 rfl (by decide) (by omega) u5 ys (kk : Int) [.int .i64 (kk : Int)] (fun _ => True) (fun _ => False) rfl rfl ?aP (fun _ hk => hk.elim) ?aF ?aO ?aB ?aS ?aL ?_; (case aP => exact rfl); (case aB => exact HB1.out); (case aF => exact (fun _ _ => trivial)); (case aO => exact HO1.out); (case aS => exact (below_size HB1.out)); (case aL => have := HL.out; have := HZ.out; omega); intro v510 w7 ho hb hg hat; have n0_ := dk (hb); have n1_ := dk (ho); clear HB HB1 HO HO1; have HB := n0_; have HO := n1_; clear n0_ n1_; clear ho hb hg hat))
        go_roundg (l0.length - (kk + 1))
        case measure => omega
        case rel => exact ⟨kk + 1, ys ++ [(kk : Int)], by omega, by omega, by go_num, HA2, ⟨by have := HL.out; simp; omega⟩, HO, HB⟩
      | false =>
        have HA2 := dk (show whereI p 0 l0 = ys ++ whereI p ((kk + 1 : Nat) : Int) (l0.drop (kk + 1)) by rw [HA1.out, hq]; simp)
        clear hq
        go_wp2_with fail
        go_roundg (l0.length - (kk + 1))
        case measure => omega
        case rel => exact ⟨kk + 1, ys, by omega, by omega, by go_num, HA2, ⟨by have := HL.out; omega⟩, HO1, HB1⟩
    · have hd : decide ((kk : Int) < (l0.length : Int)) = false := by simp; omega
      have hd2 : decide (kk < l0.length) = false := by simp; omega
      have hk := dk (show kk = l0.length by omega)
      clear hlt hg
      have hy : whereI p 0 l0 = ys := by rw [HA.out, hk.out, List.drop_length, whereI, List.append_nil]
      have HY := dk hy
      clear hy
      go_wp2_with fail
      go_ret
      exact ⟨_, rfl, by rw [HY.out]; exact HO.out, HB.out⟩
def isOpenB (g : S95) : Bool := g.f4 == 0
def openI (l : List (S95)) : List Int := whereI isOpenB 0 l
def impl_OpenGames.f (l0 : List (S95)) : Option (List Int) := if l0.length < 17592186044416 then some (openI l0) else none
set_option maxHeartbeats 4000000 in
theorem impl_OpenGames.calls (A0 : Option Addr) (c0 : Nat) (l0 : List (S95)) (r : List Int) (w : World) (hr0 : Kd.C k95 w A0 l0.length l0) (hc0 : l0.length ≤ c0) (h : impl_OpenGames.f l0 = some r) :
    Calls Try.prog 91 #[.slice A0 l0.length c0] w fun e w' => ∃ v0_ : Value, e = .returned v0_ ∧ Kd.R (Kd.int .i64) 3 w' w.heap.size (fun _ => True) v0_ r ∧ Below w.heap.size w w' := by
  unfold impl_OpenGames.f at h
  by_cases hz : l0.length < 17592186044416
  · rw [if_pos hz] at h
    obtain rfl := Option.some.inj h
    have HR0 := dk hr0
    have HZ := dk hz
    clear h hr0 hc0 hz
    have eg := my_enters Try.func81 (by kernel_rfl) rfl
    have HG := dk eg
    clear eg
    go_enter Try.func91, Try.ntmps91
    go_wp2_with fail
    refine (impl_gamesWhere.calls 81 #[] HG.out isOpenB A0 c0 l0.length l0 w HR0.out HZ.out (fun W x hW _ => (impl_IsOpen.calls x.f0 x.f1 x.f2 x.f3 x.f4 _ W rfl).mono (fun e w' h => ?_))).mono ?_
    · obtain ⟨he, hb⟩ := h
      exact ⟨he, hb⟩
    rintro e w2 ⟨v, rfl, ho, hb2⟩
    have HB2 := dk hb2
    have HO := dk ho
    clear hb2 ho
    go_wp2_with fail
    go_ret
    exact ⟨_, rfl, HO.out, HB2.out⟩
  · rw [if_neg hz] at h
    cases h
def impl_GoalsOf.f (a0_0 : Int) (a0_1 : Int) (a0_2 : Int) (a0_3 : Int) (a0_4 : Int) : Option (Int × Int × Bool) := if a0_4 = 1 then (some (a0_2, a0_3, true)) else (if a0_4 = 2 then (some (3, 0, true)) else (if a0_4 = 3 then (some (0, 3, true)) else (some (0, 0, false))))
theorem impl_GoalsOf.calls (a0_0 : Int) (a0_1 : Int) (a0_2 : Int) (a0_3 : Int) (a0_4 : Int) (r1 : Int) (r2 : Int) (r3 : Bool) (w : World) (h : impl_GoalsOf.f a0_0 a0_1 a0_2 a0_3 a0_4 = some (r1, r2, r3)) :
  Calls Try.prog 171 #[.agg #[.int .i64 a0_0, .int .i64 a0_1, .int .i64 a0_2, .int .i64 a0_3, .int .i64 a0_4]] w fun e w' => e = .returned (.tuple #[.int .i64 r1, .int .i64 r2, .bool r3]) ∧ Below w.heap.size w w' := by
 have hu95 := Try.underlying95
 have HB := hb0 w
 have H : (if a0_4 = 1 then (some (a0_2, a0_3, true)) else (if a0_4 = 2 then (some (3, 0, true)) else (if a0_4 = 3 then (some (0, 3, true)) else (some (0, 0, false))))) = some (r1, r2, r3) := h
 clear h
 by_cases c2 : a0_4 = 1
 ·rw [if_pos c2] at H
  have c2b0 := beq_iff_eq.mpr c2
  have c2b1 := bne_eq_false_iff_eq.mpr c2
  clear c2
  simp only [Option.some.injEq, Prod.mk.injEq] at H
  obtain ⟨rfl, rfl, rfl⟩ := H
  go_enter Try.func171, Try.ntmps171
  go_wp2_with (first | ((with_reducible refine gdst_ 1 rfl ?_); refine bx (N := 1) (cs := #[.int .i64 a0_0, .int .i64 a0_1, .int .i64 a0_2, .int .i64 a0_3, .int .i64 a0_4]) (t := 95) ?_; intro gb1187 hg w3 hbox hb; have BK1187 := dk (hbox); have GW1187 := gs hg HB; have GE1187 := gs hg HB; replace HB := hs_ HB hb; clear hb hbox hg; have ⟨z4_0, z4_1, z4_2, z4_3, z4_4, v4_0, v4_1, v4_2, v4_3, v4_4⟩ := rz5 BK1187))
  repeat (go_quiet (first | ((with_reducible refine gdst_ 1 rfl ?_); refine bx (N := 1) (cs := #[.int .i64 a0_0, .int .i64 a0_1, .int .i64 a0_2, .int .i64 a0_3, .int .i64 a0_4]) (t := 95) ?_; intro gb1187 hg w3 hbox hb; have BK1187 := dk (hbox); have GW1187 := gs hg HB; have GE1187 := gs hg HB; replace HB := hs_ HB hb; clear hb hbox hg; have ⟨z4_0, z4_1, z4_2, z4_3, z4_4, v4_0, v4_1, v4_2, v4_3, v4_4⟩ := rz5 BK1187)); try go_wp2_with (first | ((with_reducible refine gdst_ 1 rfl ?_); refine bx (N := 1) (cs := #[.int .i64 a0_0, .int .i64 a0_1, .int .i64 a0_2, .int .i64 a0_3, .int .i64 a0_4]) (t := 95) ?_; intro gb1187 hg w3 hbox hb; have BK1187 := dk (hbox); have GW1187 := gs hg HB; have GE1187 := gs hg HB; replace HB := hs_ HB hb; clear hb hbox hg; have ⟨z4_0, z4_1, z4_2, z4_3, z4_4, v4_0, v4_1, v4_2, v4_3, v4_4⟩ := rz5 BK1187)))
  go_ret3
  exact ⟨ee, bb HB⟩
 ·rw [if_neg c2] at H
  have c2b0 := beq_eq_false_iff_ne.mpr c2
  have c2b1 := bne_iff_ne.mpr c2
  by_cases c5 : a0_4 = 2
  ·rw [if_pos c5] at H
   have c5b0 := beq_iff_eq.mpr c5
   have c5b1 := bne_eq_false_iff_eq.mpr c5
   clear c5
   simp only [Option.some.injEq, Prod.mk.injEq] at H
   obtain ⟨rfl, rfl, rfl⟩ := H
   go_enter Try.func171, Try.ntmps171
   go_wp2_with (first | ((with_reducible refine gdst_ 1 rfl ?_); refine bx (N := 1) (cs := #[.int .i64 a0_0, .int .i64 a0_1, .int .i64 a0_2, .int .i64 a0_3, .int .i64 a0_4]) (t := 95) ?_; intro gb1187 hg w6 hbox hb; have BK1187 := dk (hbox); have GW1187 := gs hg HB; have GE1187 := gs hg HB; replace HB := hs_ HB hb; clear hb hbox hg; have ⟨z7_0, z7_1, z7_2, z7_3, z7_4, v7_0, v7_1, v7_2, v7_3, v7_4⟩ := rz5 BK1187))
   repeat (go_quiet (first | ((with_reducible refine gdst_ 1 rfl ?_); refine bx (N := 1) (cs := #[.int .i64 a0_0, .int .i64 a0_1, .int .i64 a0_2, .int .i64 a0_3, .int .i64 a0_4]) (t := 95) ?_; intro gb1187 hg w6 hbox hb; have BK1187 := dk (hbox); have GW1187 := gs hg HB; have GE1187 := gs hg HB; replace HB := hs_ HB hb; clear hb hbox hg; have ⟨z7_0, z7_1, z7_2, z7_3, z7_4, v7_0, v7_1, v7_2, v7_3, v7_4⟩ := rz5 BK1187)); try go_wp2_with (first | ((with_reducible refine gdst_ 1 rfl ?_); refine bx (N := 1) (cs := #[.int .i64 a0_0, .int .i64 a0_1, .int .i64 a0_2, .int .i64 a0_3, .int .i64 a0_4]) (t := 95) ?_; intro gb1187 hg w6 hbox hb; have BK1187 := dk (hbox); have GW1187 := gs hg HB; have GE1187 := gs hg HB; replace HB := hs_ HB hb; clear hb hbox hg; have ⟨z7_0, z7_1, z7_2, z7_3, z7_4, v7_0, v7_1, v7_2, v7_3, v7_4⟩ := rz5 BK1187)))
   go_ret3
   exact ⟨ee, bb HB⟩
  ·rw [if_neg c5] at H
   have c5b0 := beq_eq_false_iff_ne.mpr c5
   have c5b1 := bne_iff_ne.mpr c5
   by_cases c8 : a0_4 = 3
   ·rw [if_pos c8] at H
    have c8b0 := beq_iff_eq.mpr c8
    have c8b1 := bne_eq_false_iff_eq.mpr c8
    clear c8
    simp only [Option.some.injEq, Prod.mk.injEq] at H
    obtain ⟨rfl, rfl, rfl⟩ := H
    go_enter Try.func171, Try.ntmps171
    go_wp2_with (first | ((with_reducible refine gdst_ 1 rfl ?_); refine bx (N := 1) (cs := #[.int .i64 a0_0, .int .i64 a0_1, .int .i64 a0_2, .int .i64 a0_3, .int .i64 a0_4]) (t := 95) ?_; intro gb1187 hg w9 hbox hb; have BK1187 := dk (hbox); have GW1187 := gs hg HB; have GE1187 := gs hg HB; replace HB := hs_ HB hb; clear hb hbox hg; have ⟨z10_0, z10_1, z10_2, z10_3, z10_4, v10_0, v10_1, v10_2, v10_3, v10_4⟩ := rz5 BK1187))
    repeat (go_quiet (first | ((with_reducible refine gdst_ 1 rfl ?_); refine bx (N := 1) (cs := #[.int .i64 a0_0, .int .i64 a0_1, .int .i64 a0_2, .int .i64 a0_3, .int .i64 a0_4]) (t := 95) ?_; intro gb1187 hg w9 hbox hb; have BK1187 := dk (hbox); have GW1187 := gs hg HB; have GE1187 := gs hg HB; replace HB := hs_ HB hb; clear hb hbox hg; have ⟨z10_0, z10_1, z10_2, z10_3, z10_4, v10_0, v10_1, v10_2, v10_3, v10_4⟩ := rz5 BK1187)); try go_wp2_with (first | ((with_reducible refine gdst_ 1 rfl ?_); refine bx (N := 1) (cs := #[.int .i64 a0_0, .int .i64 a0_1, .int .i64 a0_2, .int .i64 a0_3, .int .i64 a0_4]) (t := 95) ?_; intro gb1187 hg w9 hbox hb; have BK1187 := dk (hbox); have GW1187 := gs hg HB; have GE1187 := gs hg HB; replace HB := hs_ HB hb; clear hb hbox hg; have ⟨z10_0, z10_1, z10_2, z10_3, z10_4, v10_0, v10_1, v10_2, v10_3, v10_4⟩ := rz5 BK1187)))
    go_ret3
    exact ⟨ee, bb HB⟩
   ·rw [if_neg c8] at H
    have c8b0 := beq_eq_false_iff_ne.mpr c8
    have c8b1 := bne_iff_ne.mpr c8
    simp only [Option.some.injEq, Prod.mk.injEq] at H
    obtain ⟨rfl, rfl, rfl⟩ := H
    go_enter Try.func171, Try.ntmps171
    go_wp2_with (first | ((with_reducible refine gdst_ 1 rfl ?_); refine bx (N := 1) (cs := #[.int .i64 a0_0, .int .i64 a0_1, .int .i64 a0_2, .int .i64 a0_3, .int .i64 a0_4]) (t := 95) ?_; intro gb1187 hg w11 hbox hb; have BK1187 := dk (hbox); have GW1187 := gs hg HB; have GE1187 := gs hg HB; replace HB := hs_ HB hb; clear hb hbox hg; have ⟨z12_0, z12_1, z12_2, z12_3, z12_4, v12_0, v12_1, v12_2, v12_3, v12_4⟩ := rz5 BK1187))
    repeat (go_quiet (first | ((with_reducible refine gdst_ 1 rfl ?_); refine bx (N := 1) (cs := #[.int .i64 a0_0, .int .i64 a0_1, .int .i64 a0_2, .int .i64 a0_3, .int .i64 a0_4]) (t := 95) ?_; intro gb1187 hg w11 hbox hb; have BK1187 := dk (hbox); have GW1187 := gs hg HB; have GE1187 := gs hg HB; replace HB := hs_ HB hb; clear hb hbox hg; have ⟨z12_0, z12_1, z12_2, z12_3, z12_4, v12_0, v12_1, v12_2, v12_3, v12_4⟩ := rz5 BK1187)); try go_wp2_with (first | ((with_reducible refine gdst_ 1 rfl ?_); refine bx (N := 1) (cs := #[.int .i64 a0_0, .int .i64 a0_1, .int .i64 a0_2, .int .i64 a0_3, .int .i64 a0_4]) (t := 95) ?_; intro gb1187 hg w11 hbox hb; have BK1187 := dk (hbox); have GW1187 := gs hg HB; have GE1187 := gs hg HB; replace HB := hs_ HB hb; clear hb hbox hg; have ⟨z12_0, z12_1, z12_2, z12_3, z12_4, v12_0, v12_1, v12_2, v12_3, v12_4⟩ := rz5 BK1187)))
    go_ret3
    exact ⟨ee, bb HB⟩
end Go.Proofs.Ythfefanapneocaa.Q
