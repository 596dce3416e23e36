/- A part of the proof of FnExactCheckLead. No condition. -/
import Derived.Test.YthfefanapneocaaKFnExactCheckLead1
import Derived.Test.YthfefanapneocaaProg
import Derived.Below
import Derived.Deep.Draws
import Derived.Deep.AppendLies
import Derived.Maps.AppendAt
import Derived.OwnWalk
import Derived.Laws.BytesArg
import Derived.Laws.MakeOwn
import Derived.Laws.OwnMore
import Derived.Deep.OwnRows
import Derived.Tactics
import Derived.Lib.ConvBytes
import Derived.Laws.Slices
import Derived.WalkKit
import Derived.KernelRfl
import Derived.RowKit3
import Derived.Deep.LoopGhost
import Derived.Deep.QuietTactic
import Derived.BigQuiet
import Derived.WideLaws
import Derived.Deep.DeepCutAuto
import Derived.Deep.CutBlock
import Derived.Deep.RegionHeld3
import Derived.Laws.Rows
import Derived.Lib.AppendStr
import Derived.ArgAppend
import Derived.Laws.IdiomCopy
import Derived.OrdersHeld
import Derived.Laws.BitsLemmas
import Derived.RowKit
import Derived.WalkSpells
import Derived.Shelf.Strings.Builder1
import Derived.Shelf.Strings.Builder2
import Derived.Shelf.Small.Bits
import Derived.Shelf.Strconv.Itoa0
import Derived.Ground.Names2Prog
import Derived.Shelf.Slices.Clone
import Derived.Shelf.Slices.SearchI
import Derived.Ground.SlgnProg
import Derived.Shelf.SlicesE.Clone
import Derived.Lib.AppendIntMem
import Derived.Laws.StructEq
import Derived.Test.YthfefanapneocaaKFnExactCheckLead4
import Derived.Test.YthfefanapneocaaKFnExactCheckLead5
import Derived.Test.YthfefanapneocaaKFnExactCheckLead2
import Derived.Test.YthfefanapneocaaKFnExactCheckLead3
import Derived.Test.YthfefanapneocaaRows
import Derived.ProofKit
import Derived.OpenShut
import Derived.ShutString
import Derived.ChangeOld
import Derived.SizedLaws
section
namespace Go.Proofs.Ythfefanapneocaa.Q
open Go.RowKit Go.Proofs.YthfefanapneocaaW.PrintWords Go.Proofs.YthfefanapneocaaW.PrintLast Go.Proofs.YthfefanapneocaaW.PrintMore
attribute [local go_sem] max2_int min2_int max_two min_two max_three min_three max_four min_four
set_option linter.unusedVariables false
set_option linter.unusedSimpArgs false
set_option maxRecDepth 100000
set_option maxHeartbeats 8000000
mutual
def impl_CheckLead.l0 : Nat → Int → Int → List Int → List Int → Int → Int → List (S139) → Int → Int → Int → List Int → Bool → List (S95) → List Int → List Int → Bool → List Int → List Int → Option (Bool)
 | 0, _, _, _, _, _, _, _, _, _, _, _, _, _, _, _, _, _, _ => none
 | k + 1, x1, x8, x9, x43, x44, x45, x1556000, x1556001, x1556002, x1556003, x1556004, x1556005, x1556006, x1556007, x1556008, x1557000, x1557001, x1557002 => if x45 < x44 then (if 0 ≤ x45 then (if x45 < (x43.length : Int) then ((impl_isTeam.f x1556000 x1556001 x1556002 x1556003 x1556004 x1556005 x1556006 x1556007 x1556008 (rd x43 x45)).bind fun t1590 => (if t1590 = true then (if (rd x43 x45) = x1 then (some false) else (if x45 > 0 then (if 0 ≤ (wrap64 (x45 - 1)) then (if (wrap64 (x45 - 1)) < (x1557002.length : Int) then (if (rd x43 x45) ≤ (rd x1557002 (wrap64 (x45 - 1))) then (some false) else (if 0 ≤ (rd x43 x45) then (if (rd x43 x45) < (x9.length : Int) then (impl_CheckLead.l0 k x1 (wrap64 (x8 + (rd x9 (rd x43 x45)))) x9 x43 x44 (wrap64 (x45 + 1)) x1556000 x1556001 x1556002 x1556003 x1556004 x1556005 x1556006 x1556007 x1556008 x1557000 x1557001 x1557002) else (none)) else (none))) else (none)) else (none)) else (if 0 ≤ (rd x43 x45) then (if (rd x43 x45) < (x9.length : Int) then (impl_CheckLead.l0 k x1 (wrap64 (x8 + (rd x9 (rd x43 x45)))) x9 x43 x44 (wrap64 (x45 + 1)) x1556000 x1556001 x1556002 x1556003 x1556004 x1556005 x1556006 x1556007 x1556008 x1557000 x1557001 x1557002) else (none)) else (none)))) else (some false))) else (none)) else (none)) else ((impl_OpenGames.f x1556006).bind fun t1594 => (impl_CheckLead.l1 k x1 x8 t1594 (t1594.length : Int) 0 x1556000 x1556001 x1556002 x1556003 x1556004 x1556005 x1556006 x1556007 x1556008 x1557000 x1557001 x1557002))
def impl_CheckLead.l1 : Nat → Int → Int → List Int → Int → Int → List (S139) → Int → Int → Int → List Int → Bool → List (S95) → List Int → List Int → Bool → List Int → List Int → Option (Bool)
 | 0, _, _, _, _, _, _, _, _, _, _, _, _, _, _, _, _, _ => none
 | k + 1, x1, x8, x82, x83, x84, x1556000, x1556001, x1556002, x1556003, x1556004, x1556005, x1556006, x1556007, x1556008, x1557000, x1557001, x1557002 => if x84 < x83 then (if 0 ≤ x84 then (if x84 < (x82.length : Int) then (if 0 ≤ (rd x82 x84) then (if (rd x82 x84) < (x1556006.length : Int) then ((slices_Contains_int_int.f k x1557002 ((rd_T95 x1556006 (rd x82 x84)).f0)).bind fun t1600 => (if t1600 = true then ((slices_Contains_int_int.f k x1557002 ((rd_T95 x1556006 (rd x82 x84)).f1)).bind fun t1602 => (if t1602 = true then (impl_CheckLead.l1 k x1 (wrap64 (x8 + 2)) x82 x83 (wrap64 (x84 + 1)) x1556000 x1556001 x1556002 x1556003 x1556004 x1556005 x1556006 x1556007 x1556008 x1557000 x1557001 x1557002) else (impl_CheckLead.l1 k x1 x8 x82 x83 (wrap64 (x84 + 1)) x1556000 x1556001 x1556002 x1556003 x1556004 x1556005 x1556006 x1556007 x1556008 x1557000 x1557001 x1557002))) else (impl_CheckLead.l1 k x1 x8 x82 x83 (wrap64 (x84 + 1)) x1556000 x1556001 x1556002 x1556003 x1556004 x1556005 x1556006 x1556007 x1556008 x1557000 x1557001 x1557002))) else (none)) else (none)) else (none)) else (none)) else (if (x1557002.length : Int) > 0 then ((impl_best.f k x1556000 x1556001 x1556002 x1556003 x1556004 x1556005 x1556006 x1556007 x1556008 x1).bind fun t1597 => (some (decide (x8 > (wrap64 ((x1557002.length : Int) * t1597)))))) else (some false))
end
def impl_CheckLead.f (k : Nat) (l0_0 : List (S139)) (a0_1 : Int) (a0_2 : Int) (a0_3 : Int) (l0_4 : List Int) (a0_5 : Bool) (l0_6 : List (S95)) (l0_7 : List Int) (l0_8 : List Int) (a1 : Int) (a2_0 : Bool) (l2_1 : List Int) (l2_2 : List Int) : Option (Bool) := (impl_isLead.f k l0_0 a0_1 a0_2 a0_3 l0_4 a0_5 l0_6 l0_7 l0_8 a1).bind fun t1557 => (if t1557 = true then (if a2_0 = true then ((impl_OpenGames.f l0_6).bind fun t1558 => ((impl_areOutcomes.f l2_1 (t1558.length : Int)).bind fun t1561 => (if t1561 = true then ((impl_played.f k l0_0 a0_1 a0_2 a0_3 l0_4 a0_5 l0_6 l0_7 l0_8 l2_1).bind fun bt1562 => ((impl_points.f k bt1562.1 bt1562.2.1 bt1562.2.2.1 bt1562.2.2.2.1 bt1562.2.2.2.2.1 bt1562.2.2.2.2.2.1 bt1562.2.2.2.2.2.2.1 bt1562.2.2.2.2.2.2.2.1 bt1562.2.2.2.2.2.2.2.2).bind fun t1581 => ((slices_Max_int_int.f k t1581).bind fun t1584 => (if 0 ≤ a1 then (if a1 < (t1581.length : Int) then (some (t1584 == (rd t1581 a1))) else (none)) else (none))))) else (some false)))) else ((impl_points.f k l0_0 a0_1 a0_2 a0_3 l0_4 a0_5 l0_6 l0_7 l0_8).bind fun t1586 => (impl_CheckLead.l0 k a1 0 t1586 l2_2 (l2_2.length : Int) 0 l0_0 a0_1 a0_2 a0_3 l0_4 a0_5 l0_6 l0_7 l0_8 a2_0 l2_1 l2_2))) else (some false))
def impl_CheckLead.T4 : Bool × List (List Nat × List Nat) := (true, [([], []), ([0], [0]), ([], []), ([2], [2]), ([3], [3]), ([4], [4]), ([1, 5, 4], [1, 5]), ([6], [6])])
def impl_CheckLead.B4 : List Nat := [0, 1, 0, 4, 12, 28, 63, 127]
theorem impl_CheckLead.tab4 : rtab .any (opsOf Try.f34 4) = impl_CheckLead.T4 := by kernel_rfl
theorem impl_CheckLead.bits4 : waitsOk impl_CheckLead.T4.2 impl_CheckLead.B4 = true := by kernel_rfl
def impl_CheckLead.T7 : Bool × List (List Nat × List Nat) := (true, [([], []), ([0], [0]), ([], []), ([], []), ([2, 3], [2, 3]), ([4], [4]), ([1, 5], [1, 5]), ([6, 1, 0, 1, 2, 3, 4, 5, 6], [6])])
def impl_CheckLead.B7 : List Nat := [0, 1, 0, 0, 12, 28, 63, 127]
theorem impl_CheckLead.tab7 : rtab .any (opsOf Try.f34 7) = impl_CheckLead.T7 := by kernel_rfl
theorem impl_CheckLead.bits7 : waitsOk impl_CheckLead.T7.2 impl_CheckLead.B7 = true := by kernel_rfl
def impl_CheckLead.T19 : Bool × List (List Nat × List Nat) := (true, [([], []), ([0], [0]), ([], []), ([2], [2]), ([], []), ([3, 4], [3, 4]), ([5], [5]), ([6], [6]), ([1, 7], [1, 7]), ([8, 8], [8]), ([9], [9]), ([10, 9], [9, 10]), ([9], [9]), ([12, 9], [9, 12]), ([9], [9]), ([13, 14, 9], [9, 13, 14]), ([15, 9], [9, 15]), ([16, 9], [9, 16]), ([11, 17, 9, 9], [9, 11, 17]), ([9, 18], [9, 18])])
def impl_CheckLead.B19 : List Nat := [0, 1, 0, 4, 0, 28, 60, 124, 255, 511, 1023, 2047, 1023, 5119, 1023, 29695, 62463, 127999, 262143, 524287]
theorem impl_CheckLead.tab19 : rtab .any (opsOf Try.f34 19) = impl_CheckLead.T19 := by kernel_rfl
theorem impl_CheckLead.bits19 : waitsOk impl_CheckLead.T19.2 impl_CheckLead.B19 = true := by kernel_rfl
def impl_CheckLead.T22 : Bool × List (List Nat × List Nat) := (true, [([], []), ([0], [0]), ([1], [1]), ([2], [2]), ([3], [3]), ([4], [4]), ([4], [4]), ([6, 4], [4, 6]), ([7, 4], [4, 7]), ([4], [4]), ([4], [4]), ([9, 10, 4, 4], [4, 9, 10]), ([8, 11, 4], [4, 8, 11]), ([5, 12, 4], [4, 5, 12]), ([4, 13], [4, 13]), ([14, 11, 0, 1, 2, 3, 4, 5, 6, 7, 8, 9, 10, 11, 12, 13, 14], [14])])
def impl_CheckLead.B22 : List Nat := [0, 1, 3, 7, 15, 31, 31, 95, 223, 31, 31, 1567, 4063, 8191, 16383, 32767]
theorem impl_CheckLead.tab22 : rtab .any (opsOf Try.f34 22) = impl_CheckLead.T22 := by kernel_rfl
theorem impl_CheckLead.bits22 : waitsOk impl_CheckLead.T22.2 impl_CheckLead.B22 = true := by kernel_rfl
theorem impl_CheckLead.calls (k : Nat) (A0_0 : Option Addr) (c0_0 : Nat) (l0_0 : List (S139)) (a0_1 : Int) (a0_2 : Int) (a0_3 : Int) (A0_4 : Option Addr) (c0_4 : Nat) (l0_4 : List Int) (a0_5 : Bool) (A0_6 : Option Addr) (c0_6 : Nat) (l0_6 : List (S95)) (A0_7 : Option Addr) (c0_7 : Nat) (l0_7 : List Int) (A0_8 : Option Addr) (c0_8 : Nat) (l0_8 : List Int) (a1 : Int) (a2_0 : Bool) (A2_1 : Option Addr) (c2_1 : Nat) (l2_1 : List Int) (A2_2 : Option Addr) (c2_2 : Nat) (l2_2 : List Int) (r : Bool) (w : World) (hr0_0 : Kd.C k139 w A0_0 l0_0.length l0_0) (hc0_0 : l0_0.length ≤ c0_0) (hr0_4 : Kd.C (Kd.int .i64) w A0_4 l0_4.length l0_4) (hc0_4 : l0_4.length ≤ c0_4) (hr0_6 : Kd.C k95 w A0_6 l0_6.length l0_6) (hc0_6 : l0_6.length ≤ c0_6) (hr0_7 : Kd.C (Kd.int .i64) w A0_7 l0_7.length l0_7) (hc0_7 : l0_7.length ≤ c0_7) (hr0_8 : Kd.C (Kd.int .i64) w A0_8 l0_8.length l0_8) (hc0_8 : l0_8.length ≤ c0_8) (hr2_1 : Kd.C (Kd.int .i64) w A2_1 l2_1.length l2_1) (hc2_1 : l2_1.length ≤ c2_1) (hr2_2 : Kd.C (Kd.int .i64) w A2_2 l2_2.length l2_2) (hc2_2 : l2_2.length ≤ c2_2) (h : impl_CheckLead.f k l0_0 a0_1 a0_2 a0_3 l0_4 a0_5 l0_6 l0_7 l0_8 a1 a2_0 l2_1 l2_2 = some r) :
  Calls Try.prog 34 #[.agg #[.slice A0_0 l0_0.length c0_0, .int .i64 a0_1, .int .i64 a0_2, .int .i64 a0_3, .slice A0_4 l0_4.length c0_4, .bool a0_5, .slice A0_6 l0_6.length c0_6, .slice A0_7 l0_7.length c0_7, .slice A0_8 l0_8.length c0_8], .int .i64 a1, .agg #[.bool a2_0, .slice A2_1 l2_1.length c2_1, .slice A2_2 l2_2.length c2_2]] w fun e w' => e = .returned (.bool r) ∧ Below w.heap.size w w' := by
 have hu36 := Try.underlying36
 have hu62 := Try.underlying62
 have HR0_0 := dk hr0_0
 have HC0_0 := dk hc0_0
 clear hr0_0 hc0_0
 have HR0_4 := dk hr0_4
 have HC0_4 := dk hc0_4
 clear hr0_4 hc0_4
 have HR0_6 := dk hr0_6
 have HC0_6 := dk hc0_6
 clear hr0_6 hc0_6
 have HR0_7 := dk hr0_7
 have HC0_7 := dk hc0_7
 clear hr0_7 hc0_7
 have HR0_8 := dk hr0_8
 have HC0_8 := dk hc0_8
 clear hr0_8 hc0_8
 have HR2_1 := dk hr2_1
 have HC2_1 := dk hc2_1
 clear hr2_1 hc2_1
 have HR2_2 := dk hr2_2
 have HC2_2 := dk hc2_2
 clear hr2_2 hc2_2
 have HB := hb0 w
 have H : ((impl_isLead.f k l0_0 a0_1 a0_2 a0_3 l0_4 a0_5 l0_6 l0_7 l0_8 a1).bind fun t1557 => (if t1557 = true then (if a2_0 = true then ((impl_OpenGames.f l0_6).bind fun t1558 => ((impl_areOutcomes.f l2_1 (t1558.length : Int)).bind fun t1561 => (if t1561 = true then ((impl_played.f k l0_0 a0_1 a0_2 a0_3 l0_4 a0_5 l0_6 l0_7 l0_8 l2_1).bind fun bt1562 => ((impl_points.f k bt1562.1 bt1562.2.1 bt1562.2.2.1 bt1562.2.2.2.1 bt1562.2.2.2.2.1 bt1562.2.2.2.2.2.1 bt1562.2.2.2.2.2.2.1 bt1562.2.2.2.2.2.2.2.1 bt1562.2.2.2.2.2.2.2.2).bind fun t1581 => ((slices_Max_int_int.f k t1581).bind fun t1584 => (if 0 ≤ a1 then (if a1 < (t1581.length : Int) then (some (t1584 == (rd t1581 a1))) else (none)) else (none))))) else (some false)))) else ((impl_points.f k l0_0 a0_1 a0_2 a0_3 l0_4 a0_5 l0_6 l0_7 l0_8).bind fun t1586 => (impl_CheckLead.l0 k a1 0 t1586 l2_2 (l2_2.length : Int) 0 l0_0 a0_1 a0_2 a0_3 l0_4 a0_5 l0_6 l0_7 l0_8 a2_0 l2_1 l2_2))) else (some false))) = some r := h
 clear h
 replace H := Option.bind_eq_some_iff.mp H
 obtain ⟨t1557, A40, H⟩ := H
 try dsimp only at H
 have A4 := dk A40
 clear A40
 by_cases c5 : t1557 = true
 ·subst c5
  rw [if_pos rfl] at H
  by_cases c6 : a2_0 = true
  ·subst c6
   rw [if_pos rfl] at H
   replace H := Option.bind_eq_some_iff.mp H
   obtain ⟨t1558, A70, H⟩ := H
   try dsimp only at H
   have A7 := dk A70
   clear A70
   replace H := Option.bind_eq_some_iff.mp H
   obtain ⟨t1561, A80, H⟩ := H
   try dsimp only at H
   have A8 := dk A80
   clear A80
   by_cases c9 : t1561 = true
   ·subst c9
    rw [if_pos rfl] at H
    replace H := Option.bind_eq_some_iff.mp H
    obtain ⟨⟨t1562, t1565, t1566, t1567, t1568, t1571, t1572, t1575, t1578⟩, A100, H⟩ := H
    try dsimp only at H
    have A10 := dk A100
    clear A100
    replace H := Option.bind_eq_some_iff.mp H
    obtain ⟨t1581, A110, H⟩ := H
    try dsimp only at H
    have A11 := dk A110
    clear A110
    replace H := Option.bind_eq_some_iff.mp H
    obtain ⟨t1584, A120, H⟩ := H
    try dsimp only at H
    have A12 := dk A120
    clear A120
    by_cases c13 : 0 ≤ a1
    ·rw [if_pos c13] at H
     have c13b0 := decide_eq_true c13
     clear c13
     by_cases c14 : a1 < (t1581.length : Int)
     ·rw [if_pos c14] at H
      have c14b0 := decide_eq_true c14
      clear c14
      obtain rfl := Option.some.inj H
      go_enter Try.func34, Try.ntmps34
      try go_wp2_with (first | ((with_reducible refine gdst_ 3 rfl ?_); (try (refine gate_guard (by rfl) ?_; dsimp only)); refine bx (N := 3) (cs := #[.slice A0_0 l0_0.length c0_0, .int .i64 a0_1, .int .i64 a0_2, .int .i64 a0_3, .slice A0_4 l0_4.length c0_4, .bool a0_5, .slice A0_6 l0_6.length c0_6, .slice A0_7 l0_7.length c0_7, .slice A0_8 l0_8.length c0_8]) (t := 36) ?_; intro gb1555 hg w15 hbox hb; have BK1555 := dk (hbox); have GW1555 := gs hg HB; have GE1555 := gs hg HB; replace HB := hs_ HB hb; clear hb hbox hg) | ((with_reducible refine gdst_ 5 rfl ?_); (try (refine gate_guard (by rfl) ?_; dsimp only)); refine bx (N := 5) (cs := #[.bool true, .slice A2_1 l2_1.length c2_1, .slice A2_2 l2_2.length c2_2]) (t := 62) ?_; intro gb1556 hg w16 hbox hb; have BK1556 := dk (hbox); have GW1556 := gs hg HB; have GE1556 := gs hg HB; replace HB := hs_ HB hb; have NB1555_1556 := gn hg BK1555; have NB1556_1555 := gm hg BK1555; replace BK1555 := kb BK1555 hb; clear hb hbox hg; have hnb17 := NB1555_1556.out; have hnc17 := NB1556_1555.out; have ⟨z18_0, z18_1, z18_2, z18_3, z18_4, z18_5, z18_6, z18_7, z18_8, v18_0, v18_1, v18_2, v18_3, v18_4, v18_5, v18_6, v18_7, v18_8⟩ := rz9 BK1555) | ((with_reducible refine gcallee_ 89 rfl ?_); refine gl (some 16) Try.func89 #[.agg #[.slice A0_0 l0_0.length c0_0, .int .i64 a0_1, .int .i64 a0_2, .int .i64 a0_3, .slice A0_4 l0_4.length c0_4, .bool a0_5, .slice A0_6 l0_6.length c0_6, .slice A0_7 l0_7.length c0_7, .slice A0_8 l0_8.length c0_8], .int .i64 a1] ?_; (with_reducible refine (impl_isLead.calls k _ _ l0_0 a0_1 a0_2 a0_3 _ _ l0_4 a0_5 _ _ l0_6 _ _ l0_7 _ _ l0_8 a1 true _ ?side1 ?side2 ?side3 ?side4 ?side5 ?side6 ?side7 ?side8 ?side9 ?side10 A4.out).mono ?_); (case side1 => exact cc HR0_0 HB); (case side2 => exact HC0_0.out); (case side3 => exact cc HR0_4 HB); (case side4 => exact HC0_4.out); (case side5 => exact cc HR0_6 HB); (case side6 => exact HC0_6.out); (case side7 => exact cc HR0_7 HB); (case side8 => exact HC0_7.out); (case side9 => exact cc HR0_8 HB); (case side10 => exact HC0_8.out); rintro e w19 ⟨rfl, hb⟩; refine ⟨_, rfl, ?_⟩; replace BK1555 := kb BK1555 hb; replace BK1556 := kb BK1556 hb; replace HB := hs_ HB hb; have ⟨z20_0, z20_1, z20_2, v20_0, v20_1, v20_2⟩ := rz3 BK1556))
      replace BK1555 := dk (blk_drew BK1555.out)
      replace BK1556 := dk (blk_drew BK1556.out)
      replace HB := dk (below_drew1 HB.out)
      refine start_ (n := 8) (S := fun w' => hd3 w' gb1556 (.bool true) (.slice A2_1 l2_1.length c2_1) (.slice A2_2 l2_2.length c2_2) ∧ hd9 w' gb1555 (.slice A0_0 l0_0.length c0_0) (.int .i64 a0_1) (.int .i64 a0_2) (.int .i64 a0_3) (.slice A0_4 l0_4.length c0_4) (.bool a0_5) (.slice A0_6 l0_6.length c0_6) (.slice A0_7 l0_7.length c0_7) (.slice A0_8 l0_8.length c0_8)) (ds := []) #[false, false, false, false, false, false, false, false] (by kernel_rfl) rfl rfl ⟨rb3 BK1556, rb9 BK1555⟩ (fun hHeld => ?_); refine with_tabW impl_CheckLead.tab4 impl_CheckLead.bits4 (fun HT_ HW_ => ?_)
      generalize w19.drew = w21 at BK1555 BK1556 HB hHeld ⊢
      refine pz_ 0 20 ?_
      refine pz_ 2 22 ?_
      refine tk_ 1 21 ?_
      refine tk_ 3 23 ?_
      refine on_ 4 (some 24) (fun K hK => ?_)
      refine ga_ Try.func91 #[.slice A0_6 l0_6.length c0_6] ?_
      with_reducible refine (impl_OpenGames.calls _ _ l0_6 t1558 _ ?side1 ?side2 A7.out).mono ?_
      (case side1 => exact cc HR0_6 HB)
      (case side2 => exact HC0_6.out)
      rintro e w22 ⟨v1559, rfl, ho0, hb⟩
      refine ⟨_, rfl, ?_⟩
      have HO1560 := kl ho0 HB
      replace BK1555 := kb BK1555 hb
      replace BK1556 := kb BK1556 hb
      replace HB := hs_ HB hb
      obtain ⟨Ao23, co23, eo23⟩ := Kd.R_slice HO1560.out
      (first | subst eo23 | (injection eo23 with f1_ f2_ f3_; have f4_ := f1_.symm; have f5_ := f3_.symm; clear f1_ f2_ f3_; subst f4_; subst f5_))
      refine hK.out _ _ ⟨rb3 BK1556, rb9 BK1555⟩ (fun hHeld => ?_)
      clear hK K
      refine no_ ?_
      refine pz_ 5 25 ?_
      refine on_ 6 (some 26) (fun K hK => ?_)
      refine ga_ Try.func90 #[.slice A2_1 l2_1.length c2_1, .int .i64 (t1558.length : Int)] ?_
      with_reducible refine (impl_areOutcomes.calls _ _ l2_1 (t1558.length : Int) true _ ?side1 ?side2 A8.out).mono ?_
      (case side1 => exact cc HR2_1 HB)
      (case side2 => exact HC2_1.out)
      rintro e w24 ⟨rfl, hb⟩
      refine ⟨_, rfl, ?_⟩
      replace HO1560 := kr HO1560 hb
      replace BK1555 := kb BK1555 hb
      replace BK1556 := kb BK1556 hb
      replace HB := hs_ HB hb
      refine hK.out _ _ ⟨rb3 BK1556, rb9 BK1555⟩ (fun hHeld => ?_)
      clear hK K
      refine no_ ?_
      refine pz_ 7 27 ?_
      refine done_ (done_of HT_.out (by kernel_rfl)) ?_
      have ⟨z25_0, z25_1, z25_2, z25_3, z25_4, z25_5, z25_6, z25_7, z25_8, v25_0, v25_1, v25_2, v25_3, v25_4, v25_5, v25_6, v25_7, v25_8⟩ := rz9 BK1555
      have ⟨z26_0, z26_1, z26_2, v26_0, v26_1, v26_2⟩ := rz3 BK1556
      try go_wp2_with (first | ((with_reducible refine gcallee_ 93 rfl ?_); refine gl (some 31) Try.func93 #[.agg #[.slice A0_0 l0_0.length c0_0, .int .i64 a0_1, .int .i64 a0_2, .int .i64 a0_3, .slice A0_4 l0_4.length c0_4, .bool a0_5, .slice A0_6 l0_6.length c0_6, .slice A0_7 l0_7.length c0_7, .slice A0_8 l0_8.length c0_8], .slice A2_1 l2_1.length c2_1] ?_; (with_reducible refine (impl_played.calls k _ _ l0_0 a0_1 a0_2 a0_3 _ _ l0_4 a0_5 _ _ l0_6 _ _ l0_7 _ _ l0_8 _ _ l2_1 t1562 t1565 t1566 t1567 t1568 t1571 t1572 t1575 t1578 _ ?side1 ?side2 ?side3 ?side4 ?side5 ?side6 ?side7 ?side8 ?side9 ?side10 ?side11 ?side12 A10.out).mono ?_); (case side1 => exact cc HR0_0 HB); (case side2 => exact HC0_0.out); (case side3 => exact cc HR0_4 HB); (case side4 => exact HC0_4.out); (case side5 => exact cc HR0_6 HB); (case side6 => exact HC0_6.out); (case side7 => exact cc HR0_7 HB); (case side8 => exact HC0_7.out); (case side9 => exact cc HR0_8 HB); (case side10 => exact HC0_8.out); (case side11 => exact cc HR2_1 HB); (case side12 => exact HC2_1.out); rintro e w27 ⟨v1563, v1569, v1573, v1576, v1579, rfl, ho0, ho1, ho2, ho3, ho4, hb⟩; refine ⟨_, rfl, ?_⟩; have HO1564 := kl ho0 HB; have HO1570 := dk (Kd.R_lower (Kd.R_new' ho1 (rt HO1560)) (below_size (bb HB))); have HO1574 := kl ho2 HB; have HO1577 := dk (Kd.R_lower (Kd.R_new' ho3 (rt HO1560)) (below_size (bb HB))); have HO1580 := dk (Kd.R_lower (Kd.R_new' ho4 (rt HO1560)) (below_size (bb HB))); replace HO1560 := dk (Kd.R_mono (Kd.R_told (Kd.R_told (Kd.R_told (Kd.R_old (rr HO1560) hb) (Kd.R_base ho1)) (Kd.R_base ho3)) (Kd.R_base ho4)) (fun _ h_ => h_.1)); replace BK1555 := kb BK1555 hb; replace BK1556 := kb BK1556 hb; replace HB := hs_ HB hb; obtain ⟨Ao28, co28, eo28⟩ := Kd.R_slice HO1564.out; subst eo28; obtain ⟨Ao29, co29, eo29⟩ := Kd.R_slice HO1570.out; subst eo29; obtain ⟨Ao30, co30, eo30⟩ := Kd.R_slice HO1574.out; subst eo30; obtain ⟨Ao31, co31, eo31⟩ := Kd.R_slice HO1577.out; subst eo31; obtain ⟨Ao32, co32, eo32⟩ := Kd.R_slice HO1580.out; subst eo32) | ((with_reducible refine gcallee_ 92 rfl ?_); refine gl (some 32) Try.func92 #[.agg #[.slice Ao28 t1562.length co28, .int .i64 t1565, .int .i64 t1566, .int .i64 t1567, .slice Ao29 t1568.length co29, .bool t1571, .slice Ao30 t1572.length co30, .slice Ao31 t1575.length co31, .slice Ao32 t1578.length co32]] ?_; (with_reducible refine (impl_points.calls k _ _ t1562 t1565 t1566 t1567 _ _ t1568 t1571 _ _ t1572 _ _ t1575 _ _ t1578 t1581 _ ?side1 ?side2 ?side3 ?side4 ?side5 ?side6 ?side7 ?side8 ?side9 ?side10 A11.out).mono ?_); (case side1 => exact cr HO1564); (case side2 => exact cl HO1564); (case side3 => exact cr HO1570); (case side4 => exact cl HO1570); (case side5 => exact cr HO1574); (case side6 => exact cl HO1574); (case side7 => exact cr HO1577); (case side8 => exact cl HO1577); (case side9 => exact cr HO1580); (case side10 => exact cl HO1580); rintro e w33 ⟨v1582, rfl, ho0, hb⟩; refine ⟨_, rfl, ?_⟩; replace HO1564 := kr HO1564 hb; replace HO1574 := kr HO1574 hb; have HO1583 := dk (Kd.R_lower (Kd.R_new' (Kd.R_new' (Kd.R_new' (Kd.R_new' ho0 (rt HO1560)) (rt HO1570)) (rt HO1577)) (rt HO1580)) (below_size (bb HB))); replace HO1560 := ke HO1560 ho0 hb; replace HO1570 := ke HO1570 ho0 hb; replace HO1577 := ke HO1577 ho0 hb; replace HO1580 := ke HO1580 ho0 hb; replace BK1555 := kb BK1555 hb; replace BK1556 := kb BK1556 hb; replace HB := hs_ HB hb))
      replace HO1560 := dk (Kd.R_drew HO1560.out)
      replace HO1564 := dk (Kd.R_drew HO1564.out)
      replace HO1570 := dk (Kd.R_drew HO1570.out)
      replace HO1574 := dk (Kd.R_drew HO1574.out)
      replace HO1577 := dk (Kd.R_drew HO1577.out)
      replace HO1580 := dk (Kd.R_drew HO1580.out)
      replace HO1583 := dk (Kd.R_drew HO1583.out)
      replace BK1555 := dk (blk_drew BK1555.out)
      replace BK1556 := dk (blk_drew BK1556.out)
      replace HB := dk (below_drew1 HB.out)
      obtain ⟨Ao35, co35, eo35⟩ := Kd.R_slice HO1583.out
      (first | subst eo35 | (injection eo35 with f1_ f2_ f3_; have f4_ := f1_.symm; have f5_ := f3_.symm; clear f1_ f2_ f3_; subst f4_; subst f5_))
      have p1585 : 0 ≤ (a1 : Int) := oa
      have q1585 : a1 < (t1581.length : Int) := oa
      obtain ⟨ad1585, e1585, hx1585_0⟩ := Kd.at_int (Kd.R_reads' HO1583.out).2.2 a1 p1585 q1585
      cases e1585
      replace p1585 := eq_true p1585
      replace q1585 := eq_true q1585
      refine start_ (n := 8) (S := fun w' => w'.cell? (ad1585.add (a1).toNat) = some (.int .i64 (rd t1581 a1))) (ds := []) #[false, false, false, false, false, false, false, false] (by kernel_rfl) rfl rfl (hx1585_0) (fun hHeld => ?_); refine with_tabW impl_CheckLead.tab7 impl_CheckLead.bits7 (fun HT_ HW_ => ?_)
      generalize w33.drew = w34 at HO1560 HO1564 HO1570 HO1574 HO1577 HO1580 HO1583 BK1555 BK1556 HB hx1585_0 hHeld ⊢
      refine pz_ 0 33 ?_
      refine pz_ 2 35 ?_
      refine pz_ 3 36 ?_
      refine pz_ 4 37 ?_
      refine take_ (i := 5) (N := some 38) (v := ?_) (a' := ?_) #[true, false, true, true, true, true, false, false] rfl rfl (take_ofW HT_.out HW_.out (by kernel_rfl)) (fun _ _ _ h => h) (Or.inl ⟨by rfl, ?_⟩) hHeld ?_ ?_
      rotate_left
      ·intro w' s0
       go_simp
       with_reducible rfl
      rotate_left
      ·simp only [Act.put, List.setIfInBounds_toArray, List.set_cons_zero, List.set_cons_succ, i64_w, i32_w]
       rfl
      refine on_ 1 (some 34) (fun K hK => ?_)
      refine ga_ Try.func94 #[.slice (some ad1585) t1581.length co35] ?_
      with_reducible refine (slices_Max_int_int.calls k _ _ t1581 t1584 _ ?side1 ?side2 A12.out).mono ?_
      (case side1 => exact cr HO1583)
      (case side2 => exact (Kd.R_reads' HO1583.out).2.1)
      rintro e w36 ⟨rfl, hb⟩
      have HS0_ := hx_ hb hHeld
      refine ⟨_, rfl, ?_⟩
      replace HO1560 := kr HO1560 hb
      replace HO1564 := kr HO1564 hb
      replace HO1570 := kr HO1570 hb
      replace HO1574 := kr HO1574 hb
      replace HO1577 := kr HO1577 hb
      replace HO1580 := kr HO1580 hb
      replace HO1583 := kr HO1583 hb
      replace BK1555 := kb BK1555 hb
      replace BK1556 := kb BK1556 hb
      replace HB := hs_ HB hb
      refine hK.out _ _ (HS0_) (fun hHeld => ?_)
      clear hK K
      refine no_ ?_
      refine pz_ 6 39 ?_
      refine pz_ 7 6 ?_
      refine done_ (done_of HT_.out (by kernel_rfl)) ?_
      try go_wp2
      go_ret
      exact ⟨ee, bb HB⟩
     ·rw [if_neg c14] at H
      exact absurd H (by simp)
    ·rw [if_neg c13] at H
     exact absurd H (by simp)
   ·replace c9 := Bool.eq_false_iff.mpr c9
    subst c9
    rw [if_neg (show ¬ (false = true) by decide)] at H
    obtain rfl := Option.some.inj H
    go_enter Try.func34, Try.ntmps34
    try go_wp2_with (first | ((with_reducible refine gdst_ 3 rfl ?_); (try (refine gate_guard (by rfl) ?_; dsimp only)); refine bx (N := 3) (cs := #[.slice A0_0 l0_0.length c0_0, .int .i64 a0_1, .int .i64 a0_2, .int .i64 a0_3, .slice A0_4 l0_4.length c0_4, .bool a0_5, .slice A0_6 l0_6.length c0_6, .slice A0_7 l0_7.length c0_7, .slice A0_8 l0_8.length c0_8]) (t := 36) ?_; intro gb1555 hg w37 hbox hb; have BK1555 := dk (hbox); have GW1555 := gs hg HB; have GE1555 := gs hg HB; replace HB := hs_ HB hb; clear hb hbox hg) | ((with_reducible refine gdst_ 5 rfl ?_); (try (refine gate_guard (by rfl) ?_; dsimp only)); refine bx (N := 5) (cs := #[.bool true, .slice A2_1 l2_1.length c2_1, .slice A2_2 l2_2.length c2_2]) (t := 62) ?_; intro gb1556 hg w38 hbox hb; have BK1556 := dk (hbox); have GW1556 := gs hg HB; have GE1556 := gs hg HB; replace HB := hs_ HB hb; have NB1555_1556 := gn hg BK1555; have NB1556_1555 := gm hg BK1555; replace BK1555 := kb BK1555 hb; clear hb hbox hg; have hnb39 := NB1555_1556.out; have hnc39 := NB1556_1555.out; have ⟨z40_0, z40_1, z40_2, z40_3, z40_4, z40_5, z40_6, z40_7, z40_8, v40_0, v40_1, v40_2, v40_3, v40_4, v40_5, v40_6, v40_7, v40_8⟩ := rz9 BK1555) | ((with_reducible refine gcallee_ 89 rfl ?_); refine gl (some 16) Try.func89 #[.agg #[.slice A0_0 l0_0.length c0_0, .int .i64 a0_1, .int .i64 a0_2, .int .i64 a0_3, .slice A0_4 l0_4.length c0_4, .bool a0_5, .slice A0_6 l0_6.length c0_6, .slice A0_7 l0_7.length c0_7, .slice A0_8 l0_8.length c0_8], .int .i64 a1] ?_; (with_reducible refine (impl_isLead.calls k _ _ l0_0 a0_1 a0_2 a0_3 _ _ l0_4 a0_5 _ _ l0_6 _ _ l0_7 _ _ l0_8 a1 true _ ?side1 ?side2 ?side3 ?side4 ?side5 ?side6 ?side7 ?side8 ?side9 ?side10 A4.out).mono ?_); (case side1 => exact cc HR0_0 HB); (case side2 => exact HC0_0.out); (case side3 => exact cc HR0_4 HB); (case side4 => exact HC0_4.out); (case side5 => exact cc HR0_6 HB); (case side6 => exact HC0_6.out); (case side7 => exact cc HR0_7 HB); (case side8 => exact HC0_7.out); (case side9 => exact cc HR0_8 HB); (case side10 => exact HC0_8.out); rintro e w41 ⟨rfl, hb⟩; refine ⟨_, rfl, ?_⟩; replace BK1555 := kb BK1555 hb; replace BK1556 := kb BK1556 hb; replace HB := hs_ HB hb; have ⟨z42_0, z42_1, z42_2, v42_0, v42_1, v42_2⟩ := rz3 BK1556))
    replace BK1555 := dk (blk_drew BK1555.out)
    replace BK1556 := dk (blk_drew BK1556.out)
    replace HB := dk (below_drew1 HB.out)
    refine start_ (n := 8) (S := fun w' => hd3 w' gb1556 (.bool true) (.slice A2_1 l2_1.length c2_1) (.slice A2_2 l2_2.length c2_2) ∧ hd9 w' gb1555 (.slice A0_0 l0_0.length c0_0) (.int .i64 a0_1) (.int .i64 a0_2) (.int .i64 a0_3) (.slice A0_4 l0_4.length c0_4) (.bool a0_5) (.slice A0_6 l0_6.length c0_6) (.slice A0_7 l0_7.length c0_7) (.slice A0_8 l0_8.length c0_8)) (ds := []) #[false, false, false, false, false, false, false, false] (by kernel_rfl) rfl rfl ⟨rb3 BK1556, rb9 BK1555⟩ (fun hHeld => ?_); refine with_tabW impl_CheckLead.tab4 impl_CheckLead.bits4 (fun HT_ HW_ => ?_)
    generalize w41.drew = w43 at BK1555 BK1556 HB hHeld ⊢
    refine pz_ 0 20 ?_
    refine pz_ 2 22 ?_
    refine tk_ 1 21 ?_
    refine tk_ 3 23 ?_
    refine on_ 4 (some 24) (fun K hK => ?_)
    refine ga_ Try.func91 #[.slice A0_6 l0_6.length c0_6] ?_
    with_reducible refine (impl_OpenGames.calls _ _ l0_6 t1558 _ ?side1 ?side2 A7.out).mono ?_
    (case side1 => exact cc HR0_6 HB)
    (case side2 => exact HC0_6.out)
    rintro e w44 ⟨v1559, rfl, ho0, hb⟩
    refine ⟨_, rfl, ?_⟩
    have HO1560 := kl ho0 HB
    replace BK1555 := kb BK1555 hb
    replace BK1556 := kb BK1556 hb
    replace HB := hs_ HB hb
    obtain ⟨Ao45, co45, eo45⟩ := Kd.R_slice HO1560.out
    (first | subst eo45 | (injection eo45 with f1_ f2_ f3_; have f4_ := f1_.symm; have f5_ := f3_.symm; clear f1_ f2_ f3_; subst f4_; subst f5_))
    refine hK.out _ _ ⟨rb3 BK1556, rb9 BK1555⟩ (fun hHeld => ?_)
    clear hK K
    refine no_ ?_
    refine pz_ 5 25 ?_
    refine on_ 6 (some 26) (fun K hK => ?_)
    refine ga_ Try.func90 #[.slice A2_1 l2_1.length c2_1, .int .i64 (t1558.length : Int)] ?_
    with_reducible refine (impl_areOutcomes.calls _ _ l2_1 (t1558.length : Int) false _ ?side1 ?side2 A8.out).mono ?_
    (case side1 => exact cc HR2_1 HB)
    (case side2 => exact HC2_1.out)
    rintro e w46 ⟨rfl, hb⟩
    refine ⟨_, rfl, ?_⟩
    replace HO1560 := kr HO1560 hb
    replace BK1555 := kb BK1555 hb
    replace BK1556 := kb BK1556 hb
    replace HB := hs_ HB hb
    refine hK.out _ _ ⟨rb3 BK1556, rb9 BK1555⟩ (fun hHeld => ?_)
    clear hK K
    refine no_ ?_
    refine pz_ 7 27 ?_
    refine done_ (done_of HT_.out (by kernel_rfl)) ?_
    try go_wp2
    go_ret
    exact ⟨ee, bb HB⟩
  ·replace c6 := Bool.eq_false_iff.mpr c6
   subst c6
   rw [if_neg (show ¬ (false = true) by decide)] at H
   replace H := Option.bind_eq_some_iff.mp H
   obtain ⟨t1586, A470, H⟩ := H
   try dsimp only at H
   have A47 := dk A470
   clear A470
   have H' := dk H
   clear H
   go_enter Try.func34, Try.ntmps34
   go_wp2_with (first | ((with_reducible refine gdst_ 3 rfl ?_); (try (refine gate_guard (by rfl) ?_; dsimp only)); refine bx (N := 3) (cs := #[.slice A0_0 l0_0.length c0_0, .int .i64 a0_1, .int .i64 a0_2, .int .i64 a0_3, .slice A0_4 l0_4.length c0_4, .bool a0_5, .slice A0_6 l0_6.length c0_6, .slice A0_7 l0_7.length c0_7, .slice A0_8 l0_8.length c0_8]) (t := 36) ?_; intro gb1555 hg w48 hbox hb; have BK1555 := dk (hbox); have GW1555 := gs hg HB; have GE1555 := gs hg HB; replace HB := hs_ HB hb; clear hb hbox hg) | ((with_reducible refine gdst_ 5 rfl ?_); (try (refine gate_guard (by rfl) ?_; dsimp only)); refine bx (N := 5) (cs := #[.bool false, .slice A2_1 l2_1.length c2_1, .slice A2_2 l2_2.length c2_2]) (t := 62) ?_; intro gb1556 hg w49 hbox hb; have BK1556 := dk (hbox); have GW1556 := gs hg HB; have GE1556 := gs hg HB; replace HB := hs_ HB hb; have NB1555_1556 := gn hg BK1555; have NB1556_1555 := gm hg BK1555; replace BK1555 := kb BK1555 hb; clear hb hbox hg; have hnb50 := NB1555_1556.out; have hnc50 := NB1556_1555.out; have ⟨z51_0, z51_1, z51_2, z51_3, z51_4, z51_5, z51_6, z51_7, z51_8, v51_0, v51_1, v51_2, v51_3, v51_4, v51_5, v51_6, v51_7, v51_8⟩ := rz9 BK1555) | ((with_reducible refine gcallee_ 89 rfl ?_); refine gl (some 16) Try.func89 #[.agg #[.slice A0_0 l0_0.length c0_0, .int .i64 a0_1, .int .i64 a0_2, .int .i64 a0_3, .slice A0_4 l0_4.length c0_4, .bool a0_5, .slice A0_6 l0_6.length c0_6, .slice A0_7 l0_7.length c0_7, .slice A0_8 l0_8.length c0_8], .int .i64 a1] ?_; (with_reducible refine (impl_isLead.calls k _ _ l0_0 a0_1 a0_2 a0_3 _ _ l0_4 a0_5 _ _ l0_6 _ _ l0_7 _ _ l0_8 a1 true _ ?side1 ?side2 ?side3 ?side4 ?side5 ?side6 ?side7 ?side8 ?side9 ?side10 A4.out).mono ?_); (case side1 => exact cc HR0_0 HB); (case side2 => exact HC0_0.out); (case side3 => exact cc HR0_4 HB); (case side4 => exact HC0_4.out); (case side5 => exact cc HR0_6 HB); (case side6 => exact HC0_6.out); (case side7 => exact cc HR0_7 HB); (case side8 => exact HC0_7.out); (case side9 => exact cc HR0_8 HB); (case side10 => exact HC0_8.out); rintro e w52 ⟨rfl, hb⟩; refine ⟨_, rfl, ?_⟩; replace BK1555 := kb BK1555 hb; replace BK1556 := kb BK1556 hb; replace HB := hs_ HB hb; have ⟨z53_0, z53_1, z53_2, v53_0, v53_1, v53_2⟩ := rz3 BK1556; have ⟨z54_0, z54_1, z54_2, z54_3, z54_4, z54_5, z54_6, z54_7, z54_8, v54_0, v54_1, v54_2, v54_3, v54_4, v54_5, v54_6, v54_7, v54_8⟩ := rz9 BK1555) | ((with_reducible refine gcallee_ 92 rfl ?_); refine gl (some 41) Try.func92 #[.agg #[.slice A0_0 l0_0.length c0_0, .int .i64 a0_1, .int .i64 a0_2, .int .i64 a0_3, .slice A0_4 l0_4.length c0_4, .bool a0_5, .slice A0_6 l0_6.length c0_6, .slice A0_7 l0_7.length c0_7, .slice A0_8 l0_8.length c0_8]] ?_; (with_reducible refine (impl_points.calls k _ _ l0_0 a0_1 a0_2 a0_3 _ _ l0_4 a0_5 _ _ l0_6 _ _ l0_7 _ _ l0_8 t1586 _ ?side1 ?side2 ?side3 ?side4 ?side5 ?side6 ?side7 ?side8 ?side9 ?side10 A47.out).mono ?_); (case side1 => exact cc HR0_0 HB); (case side2 => exact HC0_0.out); (case side3 => exact cc HR0_4 HB); (case side4 => exact HC0_4.out); (case side5 => exact cc HR0_6 HB); (case side6 => exact HC0_6.out); (case side7 => exact cc HR0_7 HB); (case side8 => exact HC0_7.out); (case side9 => exact cc HR0_8 HB); (case side10 => exact HC0_8.out); rintro e w55 ⟨v1587, rfl, ho0, hb⟩; refine ⟨_, rfl, ?_⟩; have HO1588 := kl ho0 HB; replace BK1555 := kb BK1555 hb; replace BK1556 := kb BK1556 hb; replace HB := hs_ HB hb; have ⟨z56_0, z56_1, z56_2, v56_0, v56_1, v56_2⟩ := rz3 BK1556))
   go_loopg [8, 45] k (fun kq v8 v45 w' => ∃ (x8_1 : Int) (x45_1 : Int), v8 = .int .i64 x8_1 ∧ v45 = .int .i64 x45_1 ∧ Aside0 (impl_CheckLead.l0 kq a1 x8_1 t1586 l2_2 (l2_2.length : Int) x45_1 l0_0 a0_1 a0_2 a0_3 l0_4 a0_5 l0_6 l0_7 l0_8 false l2_1 l2_2 = some r) ∧ Aside0 (kq ≤ k) ∧ Aside0 (Kd.R (Kd.int .i64) 3 w' w.heap.size (fun _ => True) v1587 t1586) ∧ Aside0 (w'.heap[gb1555]? = some (.cells #[(.slice A0_0 l0_0.length c0_0), .int .i64 a0_1, .int .i64 a0_2, .int .i64 a0_3, (.slice A0_4 l0_4.length c0_4), .bool a0_5, (.slice A0_6 l0_6.length c0_6), (.slice A0_7 l0_7.length c0_7), (.slice A0_8 l0_8.length c0_8)] 36 (0, 0))) ∧ Aside0 (w'.heap[gb1556]? = some (.cells #[.bool false, (.slice A2_1 l2_1.length c2_1), (.slice A2_2 l2_2.length c2_2)] 62 (0, 0))) ∧ Aside0 (Below w.heap.size w w'))
   case atStart => exact ⟨(0), (0), e2_, e2_, H', ⟨Nat.le_refl _⟩, ⟨rr HO1588⟩, ⟨bk BK1555⟩, ⟨bk BK1556⟩, ⟨bb HB⟩⟩
   case round =>
    clear H'
    obtain ⟨x8_1, x45_1, rfl, rfl, HA, HK1, HO_9, BK1555, BK1556, HB⟩ := hrel
    cases gk with
    | zero => exact absurd HA.out (by simp [impl_CheckLead.l0])
    | succ k1 =>
     have H := HA.out
     clear HA
     simp only [impl_CheckLead.l0] at H
     by_cases c57 : x45_1 < (l2_2.length : Int)
     ·rw [if_pos c57] at H
      have c57b0 := decide_eq_true c57
      clear c57
      by_cases c58 : 0 ≤ x45_1
      ·rw [if_pos c58] at H
       have c58b0 := decide_eq_true c58
       clear c58
       by_cases c59 : x45_1 < (l2_2.length : Int)
       ·rw [if_pos c59] at H
        have c59b0 := decide_eq_true c59
        clear c59
        replace H := Option.bind_eq_some_iff.mp H
        obtain ⟨t1590, A600, H⟩ := H
        try dsimp only at H
        have A60 := dk A600
        clear A600
        by_cases c61 : t1590 = true
        ·subst c61
         rw [if_pos rfl] at H
         by_cases c62 : (rd l2_2 x45_1) = a1
         ·rw [if_pos c62] at H
          have c62b0 := beq_iff_eq.mpr c62
          have c62b1 := bne_eq_false_iff_eq.mpr c62
          clear c62
          obtain rfl := Option.some.inj H
          have p1589 : 0 ≤ (x45_1 : Int) := oa
          have q1589 : x45_1 < (l2_2.length : Int) := oa
          obtain ⟨ad1589, e1589, hx1589_0⟩ := Kd.at_int HR2_2.out x45_1 p1589 q1589
          cases e1589
          replace hx1589_0 := hc HB hx1589_0
          replace p1589 := eq_true p1589
          replace q1589 := eq_true q1589
          have hnb63 := NB1555_1556.out
          have hnc63 := NB1556_1555.out
          have ⟨z64_0, z64_1, z64_2, z64_3, z64_4, z64_5, z64_6, z64_7, z64_8, v64_0, v64_1, v64_2, v64_3, v64_4, v64_5, v64_6, v64_7, v64_8⟩ := rz9 BK1555
          go_wp2_with (first | ((with_reducible refine gcallee_ 78 rfl ?_); refine gl (some 52) Try.func78 #[.agg #[.slice A0_0 l0_0.length c0_0, .int .i64 a0_1, .int .i64 a0_2, .int .i64 a0_3, .slice A0_4 l0_4.length c0_4, .bool a0_5, .slice A0_6 l0_6.length c0_6, .slice A0_7 l0_7.length c0_7, .slice A0_8 l0_8.length c0_8], .int .i64 (rd l2_2 x45_1)] ?_; (with_reducible refine (impl_isTeam.calls _ _ l0_0 a0_1 a0_2 a0_3 _ _ l0_4 a0_5 _ _ l0_6 _ _ l0_7 _ _ l0_8 (rd l2_2 x45_1) true _ ?side1 ?side2 ?side3 ?side4 ?side5 ?side6 ?side7 ?side8 ?side9 ?side10 A60.out).mono ?_); (case side1 => exact cc HR0_0 HB); (case side2 => exact HC0_0.out); (case side3 => exact cc HR0_4 HB); (case side4 => exact HC0_4.out); (case side5 => exact cc HR0_6 HB); (case side6 => exact HC0_6.out); (case side7 => exact cc HR0_7 HB); (case side8 => exact HC0_7.out); (case side9 => exact cc HR0_8 HB); (case side10 => exact HC0_8.out); rintro e w65 ⟨rfl, hb⟩; refine ⟨_, rfl, ?_⟩; replace HO_9 := kr HO_9 hb; replace BK1555 := kb BK1555 hb; replace BK1556 := kb BK1556 hb; replace HB := hs_ HB hb))
          go_ret
          exact ⟨ee, bb HB⟩
         ·rw [if_neg c62] at H
          have c62b0 := beq_eq_false_iff_ne.mpr c62
          have c62b1 := bne_iff_ne.mpr c62
          by_cases c66 : x45_1 > 0
          ·rw [if_pos c66] at H
           have c66b0 := decide_eq_true c66
           clear c66
           obtain ⟨ji67, hji67⟩ : ∃ j_ : Int, (wrap64 (x45_1 - 1)) = j_ := ⟨_, rfl⟩
           replace H : (if 0 ≤ (ji67) then (if (ji67) < (l2_2.length : Int) then (if (rd l2_2 x45_1) ≤ (rd l2_2 (ji67)) then (some false) else (if 0 ≤ (rd l2_2 x45_1) then (if (rd l2_2 x45_1) < (t1586.length : Int) then (impl_CheckLead.l0 k1 a1 (wrap64 (x8_1 + (rd t1586 (rd l2_2 x45_1)))) t1586 l2_2 (l2_2.length : Int) (wrap64 (x45_1 + 1)) l0_0 a0_1 a0_2 a0_3 l0_4 a0_5 l0_6 l0_7 l0_8 false l2_1 l2_2) else (none)) else (none))) else (none)) else (none)) = some r := by first | (rw [hji67] at H; exact H) | (simp only [hji67] at H ⊢; exact H)
           (try rw [hji67] at A60)
           have hji67w : (IntKind.i64.wrap (x45_1 - 1)) = ji67 := (i64_w _).trans hji67
           by_cases c68 : 0 ≤ (ji67)
           ·rw [if_pos c68] at H
            have c68b0 := decide_eq_true c68
            clear c68
            by_cases c69 : (ji67) < (l2_2.length : Int)
            ·rw [if_pos c69] at H
             have c69b0 := decide_eq_true c69
             clear c69
             by_cases c70 : (rd l2_2 x45_1) ≤ (rd l2_2 (ji67))
             ·rw [if_pos c70] at H
              have c70b0 := decide_eq_true c70
              clear c70
              obtain rfl := Option.some.inj H
              have p1589 : 0 ≤ (x45_1 : Int) := oa
              have q1589 : x45_1 < (l2_2.length : Int) := oa
              obtain ⟨ad1589, e1589, hx1589_0⟩ := Kd.at_int HR2_2.out x45_1 p1589 q1589
              cases e1589
              replace hx1589_0 := hc HB hx1589_0
              replace p1589 := eq_true p1589
              replace q1589 := eq_true q1589
              have hnb71 := NB1555_1556.out
              have hnc71 := NB1556_1555.out
              have ⟨z72_0, z72_1, z72_2, z72_3, z72_4, z72_5, z72_6, z72_7, z72_8, v72_0, v72_1, v72_2, v72_3, v72_4, v72_5, v72_6, v72_7, v72_8⟩ := rz9 BK1555
              go_wp2_with (first | ((with_reducible refine gcallee_ 78 rfl ?_); refine gl (some 52) Try.func78 #[.agg #[.slice A0_0 l0_0.length c0_0, .int .i64 a0_1, .int .i64 a0_2, .int .i64 a0_3, .slice A0_4 l0_4.length c0_4, .bool a0_5, .slice A0_6 l0_6.length c0_6, .slice A0_7 l0_7.length c0_7, .slice A0_8 l0_8.length c0_8], .int .i64 (rd l2_2 x45_1)] ?_; (with_reducible refine (impl_isTeam.calls _ _ l0_0 a0_1 a0_2 a0_3 _ _ l0_4 a0_5 _ _ l0_6 _ _ l0_7 _ _ l0_8 (rd l2_2 x45_1) true _ ?side1 ?side2 ?side3 ?side4 ?side5 ?side6 ?side7 ?side8 ?side9 ?side10 A60.out).mono ?_); (case side1 => exact cc HR0_0 HB); (case side2 => exact HC0_0.out); (case side3 => exact cc HR0_4 HB); (case side4 => exact HC0_4.out); (case side5 => exact cc HR0_6 HB); (case side6 => exact HC0_6.out); (case side7 => exact cc HR0_7 HB); (case side8 => exact HC0_7.out); (case side9 => exact cc HR0_8 HB); (case side10 => exact HC0_8.out); rintro e w73 ⟨rfl, hb⟩; refine ⟨_, rfl, ?_⟩; replace HO_9 := kr HO_9 hb; replace BK1555 := kb BK1555 hb; replace BK1556 := kb BK1556 hb; replace HB := hs_ HB hb; have ⟨z74_0, z74_1, z74_2, v74_0, v74_1, v74_2⟩ := rz3 BK1556; have p1591 : 0 ≤ ((ji67) : Int) := oa; have q1591 : (ji67) < (l2_2.length : Int) := oa; obtain ⟨ad1591, e1591, hx1591_0⟩ := Kd.at_int HR2_2.out (ji67) p1591 q1591; obtain rfl : ad1589 = ad1591 := (by injection e1591); replace hx1591_0 := hc HB hx1591_0; replace p1591 := eq_true p1591; replace q1591 := eq_true q1591))
              go_ret
              exact ⟨by first | rfl | (simp [errW_none, errW_some] <;> rfl) | (simp only [← hji67]; first | rfl | (simp [errW_none, errW_some] <;> rfl)) | (simp [*, errW_none, errW_some] <;> rfl), bb HB⟩
             ·rw [if_neg c70] at H
              have c70b0 := decide_eq_false c70
              clear c70
              by_cases c75 : 0 ≤ (rd l2_2 x45_1)
              ·rw [if_pos c75] at H
               have c75b0 := decide_eq_true c75
               clear c75
               by_cases c76 : (rd l2_2 x45_1) < (t1586.length : Int)
               ·rw [if_pos c76] at H
                have c76b0 := decide_eq_true c76
                clear c76
                have H' := dk H
                clear H
                have p1589 : 0 ≤ (x45_1 : Int) := oa
                have q1589 : x45_1 < (l2_2.length : Int) := oa
                obtain ⟨ad1589, e1589, hx1589_0⟩ := Kd.at_int HR2_2.out x45_1 p1589 q1589
                cases e1589
                replace hx1589_0 := hc HB hx1589_0
                replace p1589 := eq_true p1589
                replace q1589 := eq_true q1589
                have hnb77 := NB1555_1556.out
                have hnc77 := NB1556_1555.out
                have ⟨z78_0, z78_1, z78_2, z78_3, z78_4, z78_5, z78_6, z78_7, z78_8, v78_0, v78_1, v78_2, v78_3, v78_4, v78_5, v78_6, v78_7, v78_8⟩ := rz9 BK1555
                go_wp2_with (first | ((with_reducible refine gcallee_ 78 rfl ?_); refine gl (some 52) Try.func78 #[.agg #[.slice A0_0 l0_0.length c0_0, .int .i64 a0_1, .int .i64 a0_2, .int .i64 a0_3, .slice A0_4 l0_4.length c0_4, .bool a0_5, .slice A0_6 l0_6.length c0_6, .slice A0_7 l0_7.length c0_7, .slice A0_8 l0_8.length c0_8], .int .i64 (rd l2_2 x45_1)] ?_; (with_reducible refine (impl_isTeam.calls _ _ l0_0 a0_1 a0_2 a0_3 _ _ l0_4 a0_5 _ _ l0_6 _ _ l0_7 _ _ l0_8 (rd l2_2 x45_1) true _ ?side1 ?side2 ?side3 ?side4 ?side5 ?side6 ?side7 ?side8 ?side9 ?side10 A60.out).mono ?_); (case side1 => exact cc HR0_0 HB); (case side2 => exact HC0_0.out); (case side3 => exact cc HR0_4 HB); (case side4 => exact HC0_4.out); (case side5 => exact cc HR0_6 HB); (case side6 => exact HC0_6.out); (case side7 => exact cc HR0_7 HB); (case side8 => exact HC0_7.out); (case side9 => exact cc HR0_8 HB); (case side10 => exact HC0_8.out); rintro e w79 ⟨rfl, hb⟩; refine ⟨_, rfl, ?_⟩; replace HO_9 := kr HO_9 hb; replace BK1555 := kb BK1555 hb; replace BK1556 := kb BK1556 hb; replace HB := hs_ HB hb; have ⟨z80_0, z80_1, z80_2, v80_0, v80_1, v80_2⟩ := rz3 BK1556; have p1591 : 0 ≤ ((ji67) : Int) := oa; have q1591 : (ji67) < (l2_2.length : Int) := oa; obtain ⟨ad1591, e1591, hx1591_0⟩ := Kd.at_int HR2_2.out (ji67) p1591 q1591; obtain rfl : ad1589 = ad1591 := (by injection e1591); replace hx1591_0 := hc HB hx1591_0; replace p1591 := eq_true p1591; replace q1591 := eq_true q1591; obtain ⟨Ao81, co81, eo81⟩ := Kd.R_slice HO_9.out; subst eo81; have p1592 : 0 ≤ ((rd l2_2 x45_1) : Int) := oa; have q1592 : (rd l2_2 x45_1) < (t1586.length : Int) := oa; obtain ⟨ad1592, e1592, hx1592_0⟩ := Kd.at_int (Kd.R_reads' HO_9.out).2.2 (rd l2_2 x45_1) p1592 q1592; cases e1592; replace p1592 := eq_true p1592; replace q1592 := eq_true q1592))
                go_roundg k1
                case measure => have := HK1.out; omega
                case rel => exact ⟨(wrap64 (x8_1 + (rd t1586 (rd l2_2 x45_1)))), (wrap64 (x45_1 + 1)), e2_, e2_, H', ⟨by have := HK1.out; omega⟩, ⟨rr HO_9⟩, ⟨bk BK1555⟩, ⟨bk BK1556⟩, ⟨bb HB⟩⟩
               ·rw [if_neg c76] at H
                exact absurd H (by simp)
              ·rw [if_neg c75] at H
               exact absurd H (by simp)
            ·rw [if_neg c69] at H
             exact absurd H (by simp)
           ·rw [if_neg c68] at H
            exact absurd H (by simp)
          ·rw [if_neg c66] at H
           have c66b0 := decide_eq_false c66
           clear c66
           by_cases c82 : 0 ≤ (rd l2_2 x45_1)
           ·rw [if_pos c82] at H
            have c82b0 := decide_eq_true c82
            clear c82
            by_cases c83 : (rd l2_2 x45_1) < (t1586.length : Int)
            ·rw [if_pos c83] at H
             have c83b0 := decide_eq_true c83
             clear c83
             have H' := dk H
             clear H
             have p1589 : 0 ≤ (x45_1 : Int) := oa
             have q1589 : x45_1 < (l2_2.length : Int) := oa
             obtain ⟨ad1589, e1589, hx1589_0⟩ := Kd.at_int HR2_2.out x45_1 p1589 q1589
             cases e1589
             replace hx1589_0 := hc HB hx1589_0
             replace p1589 := eq_true p1589
             replace q1589 := eq_true q1589
             have hnb84 := NB1555_1556.out
             have hnc84 := NB1556_1555.out
             have ⟨z85_0, z85_1, z85_2, z85_3, z85_4, z85_5, z85_6, z85_7, z85_8, v85_0, v85_1, v85_2, v85_3, v85_4, v85_5, v85_6, v85_7, v85_8⟩ := rz9 BK1555
             go_wp2_with (first | ((with_reducible refine gcallee_ 78 rfl ?_); refine gl (some 52) Try.func78 #[.agg #[.slice A0_0 l0_0.length c0_0, .int .i64 a0_1, .int .i64 a0_2, .int .i64 a0_3, .slice A0_4 l0_4.length c0_4, .bool a0_5, .slice A0_6 l0_6.length c0_6, .slice A0_7 l0_7.length c0_7, .slice A0_8 l0_8.length c0_8], .int .i64 (rd l2_2 x45_1)] ?_; (with_reducible refine (impl_isTeam.calls _ _ l0_0 a0_1 a0_2 a0_3 _ _ l0_4 a0_5 _ _ l0_6 _ _ l0_7 _ _ l0_8 (rd l2_2 x45_1) true _ ?side1 ?side2 ?side3 ?side4 ?side5 ?side6 ?side7 ?side8 ?side9 ?side10 A60.out).mono ?_); (case side1 => exact cc HR0_0 HB); (case side2 => exact HC0_0.out); (case side3 => exact cc HR0_4 HB); (case side4 => exact HC0_4.out); (case side5 => exact cc HR0_6 HB); (case side6 => exact HC0_6.out); (case side7 => exact cc HR0_7 HB); (case side8 => exact HC0_7.out); (case side9 => exact cc HR0_8 HB); (case side10 => exact HC0_8.out); rintro e w86 ⟨rfl, hb⟩; refine ⟨_, rfl, ?_⟩; replace HO_9 := kr HO_9 hb; replace BK1555 := kb BK1555 hb; replace BK1556 := kb BK1556 hb; replace HB := hs_ HB hb; obtain ⟨Ao87, co87, eo87⟩ := Kd.R_slice HO_9.out; subst eo87; have p1593 : 0 ≤ ((rd l2_2 x45_1) : Int) := oa; have q1593 : (rd l2_2 x45_1) < (t1586.length : Int) := oa; obtain ⟨ad1593, e1593, hx1593_0⟩ := Kd.at_int (Kd.R_reads' HO_9.out).2.2 (rd l2_2 x45_1) p1593 q1593; cases e1593; replace p1593 := eq_true p1593; replace q1593 := eq_true q1593))
             go_roundg k1
             case measure => have := HK1.out; omega
             case rel => exact ⟨(wrap64 (x8_1 + (rd t1586 (rd l2_2 x45_1)))), (wrap64 (x45_1 + 1)), e2_, e2_, H', ⟨by have := HK1.out; omega⟩, ⟨rr HO_9⟩, ⟨bk BK1555⟩, ⟨bk BK1556⟩, ⟨bb HB⟩⟩
            ·rw [if_neg c83] at H
             exact absurd H (by simp)
           ·rw [if_neg c82] at H
            exact absurd H (by simp)
        ·replace c61 := Bool.eq_false_iff.mpr c61
         subst c61
         rw [if_neg (show ¬ (false = true) by decide)] at H
         obtain rfl := Option.some.inj H
         have p1589 : 0 ≤ (x45_1 : Int) := oa
         have q1589 : x45_1 < (l2_2.length : Int) := oa
         obtain ⟨ad1589, e1589, hx1589_0⟩ := Kd.at_int HR2_2.out x45_1 p1589 q1589
         cases e1589
         replace hx1589_0 := hc HB hx1589_0
         replace p1589 := eq_true p1589
         replace q1589 := eq_true q1589
         have hnb88 := NB1555_1556.out
         have hnc88 := NB1556_1555.out
         have ⟨z89_0, z89_1, z89_2, z89_3, z89_4, z89_5, z89_6, z89_7, z89_8, v89_0, v89_1, v89_2, v89_3, v89_4, v89_5, v89_6, v89_7, v89_8⟩ := rz9 BK1555
         go_wp2_with (first | ((with_reducible refine gcallee_ 78 rfl ?_); refine gl (some 52) Try.func78 #[.agg #[.slice A0_0 l0_0.length c0_0, .int .i64 a0_1, .int .i64 a0_2, .int .i64 a0_3, .slice A0_4 l0_4.length c0_4, .bool a0_5, .slice A0_6 l0_6.length c0_6, .slice A0_7 l0_7.length c0_7, .slice A0_8 l0_8.length c0_8], .int .i64 (rd l2_2 x45_1)] ?_; (with_reducible refine (impl_isTeam.calls _ _ l0_0 a0_1 a0_2 a0_3 _ _ l0_4 a0_5 _ _ l0_6 _ _ l0_7 _ _ l0_8 (rd l2_2 x45_1) false _ ?side1 ?side2 ?side3 ?side4 ?side5 ?side6 ?side7 ?side8 ?side9 ?side10 A60.out).mono ?_); (case side1 => exact cc HR0_0 HB); (case side2 => exact HC0_0.out); (case side3 => exact cc HR0_4 HB); (case side4 => exact HC0_4.out); (case side5 => exact cc HR0_6 HB); (case side6 => exact HC0_6.out); (case side7 => exact cc HR0_7 HB); (case side8 => exact HC0_7.out); (case side9 => exact cc HR0_8 HB); (case side10 => exact HC0_8.out); rintro e w90 ⟨rfl, hb⟩; refine ⟨_, rfl, ?_⟩; replace HO_9 := kr HO_9 hb; replace BK1555 := kb BK1555 hb; replace BK1556 := kb BK1556 hb; replace HB := hs_ HB hb))
         go_ret
         exact ⟨ee, bb HB⟩
       ·rw [if_neg c59] at H
        exact absurd H (by simp)
      ·rw [if_neg c58] at H
       exact absurd H (by simp)
     ·rw [if_neg c57] at H
      have c57b0 := decide_eq_false c57
      clear c57
      replace H := Option.bind_eq_some_iff.mp H
      obtain ⟨t1594, A910, H⟩ := H
      try dsimp only at H
      have A91 := dk A910
      clear A910
      have H' := dk H
      clear H
      have hnb92 := NB1555_1556.out
      have hnc92 := NB1556_1555.out
      have ⟨z93_0, z93_1, z93_2, z93_3, z93_4, z93_5, z93_6, z93_7, z93_8, v93_0, v93_1, v93_2, v93_3, v93_4, v93_5, v93_6, v93_7, v93_8⟩ := rz9 BK1555
      go_wp2_with (first | ((with_reducible refine gcallee_ 91 rfl ?_); refine gl (some 82) Try.func91 #[.slice A0_6 l0_6.length c0_6] ?_; (with_reducible refine (impl_OpenGames.calls _ _ l0_6 t1594 _ ?side1 ?side2 A91.out).mono ?_); (case side1 => exact cc HR0_6 HB); (case side2 => exact HC0_6.out); rintro e w94 ⟨v1595, rfl, ho0, hb⟩; refine ⟨_, rfl, ?_⟩; have HO1596 := dk (Kd.R_lower (Kd.R_new' ho0 (rt HO_9)) (below_size (bb HB))); replace HO_9 := ke HO_9 ho0 hb; replace BK1555 := kb BK1555 hb; replace BK1556 := kb BK1556 hb; replace HB := hs_ HB hb; obtain ⟨Ao95, co95, eo95⟩ := Kd.R_slice HO1596.out; subst eo95))
      go_loopg [8, 84] k1 (fun kq v8 v84 w' => ∃ (x8_2 : Int) (x84_2 : Int), v8 = .int .i64 x8_2 ∧ v84 = .int .i64 x84_2 ∧ Aside0 (impl_CheckLead.l1 kq a1 x8_2 t1594 (t1594.length : Int) x84_2 l0_0 a0_1 a0_2 a0_3 l0_4 a0_5 l0_6 l0_7 l0_8 false l2_1 l2_2 = some r) ∧ Aside0 (kq ≤ k1) ∧ Aside0 (Kd.R (Kd.int .i64) 3 w' w.heap.size (fun _ => True) (.slice Ao95 t1594.length co95) t1594) ∧ Aside0 (w'.heap[gb1555]? = some (.cells #[(.slice A0_0 l0_0.length c0_0), .int .i64 a0_1, .int .i64 a0_2, .int .i64 a0_3, (.slice A0_4 l0_4.length c0_4), .bool a0_5, (.slice A0_6 l0_6.length c0_6), (.slice A0_7 l0_7.length c0_7), (.slice A0_8 l0_8.length c0_8)] 36 (0, 0))) ∧ Aside0 (w'.heap[gb1556]? = some (.cells #[.bool false, (.slice A2_1 l2_1.length c2_1), (.slice A2_2 l2_2.length c2_2)] 62 (0, 0))) ∧ Aside0 (Below w.heap.size w w'))
      case atStart => exact ⟨(x8_1), (0), e2_, e2_, H', ⟨Nat.le_refl _⟩, ⟨ro HO1596 (fun _ hk => trivial)⟩, ⟨bk BK1555⟩, ⟨bk BK1556⟩, ⟨bb HB⟩⟩
      case round =>
       clear H'
       obtain ⟨x8_2, x84_2, rfl, rfl, HA, HK2, HO_82, BK1555, BK1556, HB⟩ := hrel
       cases gk with
       | zero => exact absurd HA.out (by simp [impl_CheckLead.l1])
       | succ k2 =>
        have H := HA.out
        clear HA
        simp only [impl_CheckLead.l1] at H
        by_cases c96 : x84_2 < (t1594.length : Int)
        ·rw [if_pos c96] at H
         have c96b0 := decide_eq_true c96
         clear c96
         by_cases c97 : 0 ≤ x84_2
         ·rw [if_pos c97] at H
          have c97b0 := decide_eq_true c97
          clear c97
          by_cases c98 : x84_2 < (t1594.length : Int)
          ·rw [if_pos c98] at H
           have c98b0 := decide_eq_true c98
           clear c98
           by_cases c99 : 0 ≤ (rd t1594 x84_2)
           ·rw [if_pos c99] at H
            have c99b0 := decide_eq_true c99
            clear c99
            by_cases c100 : (rd t1594 x84_2) < (l0_6.length : Int)
            ·rw [if_pos c100] at H
             have c100b0 := decide_eq_true c100
             clear c100
             replace H := Option.bind_eq_some_iff.mp H
             obtain ⟨t1600, A1010, H⟩ := H
             try dsimp only at H
             have A101 := dk A1010
             clear A1010
             by_cases c102 : t1600 = true
             ·subst c102
              rw [if_pos rfl] at H
              replace H := Option.bind_eq_some_iff.mp H
              obtain ⟨t1602, A1030, H⟩ := H
              try dsimp only at H
              have A103 := dk A1030
              clear A1030
              by_cases c104 : t1602 = true
              ·subst c104
               rw [if_pos rfl] at H
               have H' := dk H
               clear H
               have p1598 : 0 ≤ (x84_2 : Int) := oa
               have q1598 : x84_2 < (t1594.length : Int) := oa
               obtain ⟨ad1598, e1598, hx1598_0⟩ := Kd.at_int (Kd.R_reads' HO_82.out).2.2 x84_2 p1598 q1598
               cases e1598
               replace p1598 := eq_true p1598
               replace q1598 := eq_true q1598
               try go_wp2
               replace HO_82 := dk (Kd.R_drew HO_82.out)
               replace BK1555 := dk (blk_drew BK1555.out)
               replace BK1556 := dk (blk_drew BK1556.out)
               replace HB := dk (below_drew1 HB.out)
               have p1599 : 0 ≤ ((rd t1594 x84_2) : Int) := oa
               have q1599 : (rd t1594 x84_2) < (l0_6.length : Int) := oa
               obtain ⟨ad1599, e1599, hx1599_0, hx1599_1, hx1599_2, hx1599_3, hx1599_4⟩ := at_T95 HR0_6.out (rd t1594 x84_2) p1599 q1599
               have hw1599_4 := hx1599_4
               have hw1599_3 := hx1599_3
               have hw1599_2 := hx1599_2
               have hw1599_1 := hx1599_1
               have hw1599_0 := hx1599_0
               cases e1599
               replace hx1599_0 := hc HB hx1599_0
               replace hx1599_1 := hc HB hx1599_1
               replace hx1599_2 := hc HB hx1599_2
               replace hx1599_3 := hc HB hx1599_3
               replace hx1599_4 := hc HB hx1599_4
               replace p1599 := eq_true p1599
               replace q1599 := eq_true q1599
               have p1601 : 0 ≤ ((rd t1594 x84_2) : Int) := oa
               have q1601 : (rd t1594 x84_2) < (l0_6.length : Int) := oa
               obtain ⟨ad1601, e1601, hx1601_0, hx1601_1, hx1601_2, hx1601_3, hx1601_4⟩ := at_T95 HR0_6.out (rd t1594 x84_2) p1601 q1601
               have hw1601_4 := hx1601_4
               have hw1601_3 := hx1601_3
               have hw1601_2 := hx1601_2
               have hw1601_1 := hx1601_1
               have hw1601_0 := hx1601_0
               obtain rfl : ad1599 = ad1601 := (by injection e1601)
               replace hx1601_0 := hc HB hx1601_0
               replace hx1601_1 := hc HB hx1601_1
               replace hx1601_2 := hc HB hx1601_2
               replace hx1601_3 := hc HB hx1601_3
               replace hx1601_4 := hc HB hx1601_4
               replace p1601 := eq_true p1601
               replace q1601 := eq_true q1601
               refine start_ (n := 20) (S := fun w' => w'.cell? ⟨gb1556, 0, none⟩ = some (.bool false) ∧ w'.cell? ⟨gb1556, 1, none⟩ = some (.slice A2_1 l2_1.length c2_1) ∧ w'.cell? ⟨gb1556, 2, none⟩ = some (.slice A2_2 l2_2.length c2_2) ∧ w'.cell? ⟨gb1555, 0, none⟩ = some (.slice A0_0 l0_0.length c0_0) ∧ w'.cell? ⟨gb1555, 1, none⟩ = some (.int .i64 a0_1) ∧ w'.cell? ⟨gb1555, 2, none⟩ = some (.int .i64 a0_2) ∧ w'.cell? ⟨gb1555, 3, none⟩ = some (.int .i64 a0_3) ∧ w'.cell? ⟨gb1555, 4, none⟩ = some (.slice A0_4 l0_4.length c0_4) ∧ w'.cell? ⟨gb1555, 5, none⟩ = some (.bool a0_5) ∧ w'.cell? ⟨gb1555, 6, none⟩ = some (.slice (some ad1599) l0_6.length c0_6) ∧ w'.cell? ⟨gb1555, 7, none⟩ = some (.slice A0_7 l0_7.length c0_7) ∧ w'.cell? ⟨gb1555, 8, none⟩ = some (.slice A0_8 l0_8.length c0_8) ∧ w'.cell? (ad1599.add (((rd t1594 x84_2)).toNat * 5)) = some (.int .i64 ((rd_T95 l0_6 (rd t1594 x84_2)).f0)) ∧ w'.cell? ⟨(ad1599.add (((rd t1594 x84_2)).toNat * 5)).block, (ad1599.add (((rd t1594 x84_2)).toNat * 5)).off + 1, none⟩ = some (.int .i64 ((rd_T95 l0_6 (rd t1594 x84_2)).f1)) ∧ w'.cell? ⟨(ad1599.add (((rd t1594 x84_2)).toNat * 5)).block, (ad1599.add (((rd t1594 x84_2)).toNat * 5)).off + 2, none⟩ = some (.int .i64 ((rd_T95 l0_6 (rd t1594 x84_2)).f2)) ∧ w'.cell? ⟨(ad1599.add (((rd t1594 x84_2)).toNat * 5)).block, (ad1599.add (((rd t1594 x84_2)).toNat * 5)).off + 3, none⟩ = some (.int .i64 ((rd_T95 l0_6 (rd t1594 x84_2)).f3)) ∧ w'.cell? ⟨(ad1599.add (((rd t1594 x84_2)).toNat * 5)).block, (ad1599.add (((rd t1594 x84_2)).toNat * 5)).off + 4, none⟩ = some (.int .i64 ((rd_T95 l0_6 (rd t1594 x84_2)).f4)) ∧ w'.cell? (ad1599.add (((rd t1594 x84_2)).toNat * 5)) = some (.int .i64 ((rd_T95 l0_6 (rd t1594 x84_2)).f0)) ∧ w'.cell? ⟨(ad1599.add (((rd t1594 x84_2)).toNat * 5)).block, (ad1599.add (((rd t1594 x84_2)).toNat * 5)).off + 1, none⟩ = some (.int .i64 ((rd_T95 l0_6 (rd t1594 x84_2)).f1)) ∧ w'.cell? ⟨(ad1599.add (((rd t1594 x84_2)).toNat * 5)).block, (ad1599.add (((rd t1594 x84_2)).toNat * 5)).off + 2, none⟩ = some (.int .i64 ((rd_T95 l0_6 (rd t1594 x84_2)).f2)) ∧ w'.cell? ⟨(ad1599.add (((rd t1594 x84_2)).toNat * 5)).block, (ad1599.add (((rd t1594 x84_2)).toNat * 5)).off + 3, none⟩ = some (.int .i64 ((rd_T95 l0_6 (rd t1594 x84_2)).f3)) ∧ w'.cell? ⟨(ad1599.add (((rd t1594 x84_2)).toNat * 5)).block, (ad1599.add (((rd t1594 x84_2)).toNat * 5)).off + 4, none⟩ = some (.int .i64 ((rd_T95 l0_6 (rd t1594 x84_2)).f4))) (ds := []) #[false, false, false, false, false, false, false, false, false, false, false, false, false, false, false, false, false, false, false, false] (by kernel_rfl) rfl rfl ⟨bc BK1556 0, bc BK1556 1, bc BK1556 2, bc BK1555 0, bc BK1555 1, bc BK1555 2, bc BK1555 3, bc BK1555 4, bc BK1555 5, bc BK1555 6, bc BK1555 7, bc BK1555 8, (hc HB hw1599_0), (hc HB hw1599_1), (hc HB hw1599_2), (hc HB hw1599_3), (hc HB hw1599_4), (hc HB hw1601_0), (hc HB hw1601_1), (hc HB hw1601_2), (hc HB hw1601_3), (hc HB hw1601_4)⟩ (fun hHeld => ?_); refine with_tabW impl_CheckLead.tab19 impl_CheckLead.bits19 (fun HT_ HW_ => ?_)
               generalize wr.drew = w105 at HO_82 BK1555 BK1556 HB hx1599_0 hx1599_1 hx1599_2 hx1599_3 hx1599_4 hx1601_0 hx1601_1 hx1601_2 hx1601_3 hx1601_4 hHeld ⊢
               refine pz_ 0 88 ?_
               refine pz_ 2 90 ?_
               refine pz_ 4 92 ?_
               refine tk_ 1 89 ?_
               refine tk_ 3 91 ?_
               refine pz_ 5 93 ?_
               refine pz_ 6 94 ?_
               refine tk_ 7 95 ?_
               refine on_ 8 (some 96) (fun K hK => ?_)
               refine ga_ Try.func95 #[.slice A2_2 l2_2.length c2_2, .int .i64 ((rd_T95 l0_6 (rd t1594 x84_2)).f0)] ?_
               with_reducible refine (slices_Contains_int_int.calls k2 _ _ l2_2 ((rd_T95 l0_6 (rd t1594 x84_2)).f0) true _ ?side1 ?side2 A101.out).mono ?_
               (case side1 => exact cc HR2_2 HB)
               (case side2 => exact HC2_2.out)
               rintro e w' ⟨rfl, ⟨nd, rfl⟩⟩
               refine ⟨_, rfl, ?_⟩
               refine hK.out _ _ ⟨bc BK1556 0, bc BK1556 1, bc BK1556 2, bc BK1555 0, bc BK1555 1, bc BK1555 2, bc BK1555 3, bc BK1555 4, bc BK1555 5, bc BK1555 6, bc BK1555 7, bc BK1555 8, (hc HB hw1599_0), (hc HB hw1599_1), (hc HB hw1599_2), (hc HB hw1599_3), (hc HB hw1599_4), (hc HB hw1601_0), (hc HB hw1601_1), (hc HB hw1601_2), (hc HB hw1601_3), (hc HB hw1601_4)⟩ (fun hHeld => ?_)
               clear hK K
               refine no_ ?_
               refine pz_ 9 97 ?_
               refine pz_ 10 98 ?_
               refine pz_ 12 100 ?_
               refine pz_ 14 102 ?_
               refine tk_ 11 99 ?_
               refine tk_ 13 101 ?_
               refine pz_ 15 103 ?_
               refine pz_ 16 104 ?_
               refine tk_ 17 105 ?_
               refine on_ 18 (some 106) (fun K hK => ?_)
               refine ga_ Try.func95 #[.slice A2_2 l2_2.length c2_2, .int .i64 ((rd_T95 l0_6 (rd t1594 x84_2)).f1)] ?_
               with_reducible refine (slices_Contains_int_int.calls k2 _ _ l2_2 ((rd_T95 l0_6 (rd t1594 x84_2)).f1) true _ ?side1 ?side2 A103.out).mono ?_
               (case side1 => repeat (first | exact (Kd.C_below HR2_2.out (bb HB)) | (with_reducible refine Kd.C_alloc ?_ _) | (with_reducible refine Kd.C_drewN ?_ _) | (with_reducible refine Kd.C_drew ?_)))
               (case side2 => exact HC2_2.out)
               rintro e w' ⟨rfl, ⟨nd, rfl⟩⟩
               refine ⟨_, rfl, ?_⟩
               refine hK.out _ _ ⟨bc BK1556 0, bc BK1556 1, bc BK1556 2, bc BK1555 0, bc BK1555 1, bc BK1555 2, bc BK1555 3, bc BK1555 4, bc BK1555 5, bc BK1555 6, bc BK1555 7, bc BK1555 8, (hc HB hw1599_0), (hc HB hw1599_1), (hc HB hw1599_2), (hc HB hw1599_3), (hc HB hw1599_4), (hc HB hw1601_0), (hc HB hw1601_1), (hc HB hw1601_2), (hc HB hw1601_3), (hc HB hw1601_4)⟩ (fun hHeld => ?_)
               clear hK K
               refine no_ ?_
               refine pz_ 19 107 ?_
               refine done_ (done_of HT_.out (by kernel_rfl)) ?_
               try go_wp2
               go_roundg k2
               case measure => have := HK1.out; have := HK2.out; omega
               case rel => exact ⟨(wrap64 (x8_2 + 2)), (wrap64 (x84_2 + 1)), e2_, e2_, H', ⟨by have := HK1.out; have := HK2.out; omega⟩, ⟨rr HO_82⟩, ⟨bk BK1555⟩, ⟨bk BK1556⟩, ⟨bb HB⟩⟩
              ·replace c104 := Bool.eq_false_iff.mpr c104
               subst c104
               rw [if_neg (show ¬ (false = true) by decide)] at H
               have H' := dk H
               clear H
               have p1598 : 0 ≤ (x84_2 : Int) := oa
               have q1598 : x84_2 < (t1594.length : Int) := oa
               obtain ⟨ad1598, e1598, hx1598_0⟩ := Kd.at_int (Kd.R_reads' HO_82.out).2.2 x84_2 p1598 q1598
               cases e1598
               replace p1598 := eq_true p1598
               replace q1598 := eq_true q1598
               try go_wp2
               replace HO_82 := dk (Kd.R_drew HO_82.out)
               replace BK1555 := dk (blk_drew BK1555.out)
               replace BK1556 := dk (blk_drew BK1556.out)
               replace HB := dk (below_drew1 HB.out)
               have p1599 : 0 ≤ ((rd t1594 x84_2) : Int) := oa
               have q1599 : (rd t1594 x84_2) < (l0_6.length : Int) := oa
               obtain ⟨ad1599, e1599, hx1599_0, hx1599_1, hx1599_2, hx1599_3, hx1599_4⟩ := at_T95 HR0_6.out (rd t1594 x84_2) p1599 q1599
               have hw1599_4 := hx1599_4
               have hw1599_3 := hx1599_3
               have hw1599_2 := hx1599_2
               have hw1599_1 := hx1599_1
               have hw1599_0 := hx1599_0
               cases e1599
               replace hx1599_0 := hc HB hx1599_0
               replace hx1599_1 := hc HB hx1599_1
               replace hx1599_2 := hc HB hx1599_2
               replace hx1599_3 := hc HB hx1599_3
               replace hx1599_4 := hc HB hx1599_4
               replace p1599 := eq_true p1599
               replace q1599 := eq_true q1599
               have p1601 : 0 ≤ ((rd t1594 x84_2) : Int) := oa
               have q1601 : (rd t1594 x84_2) < (l0_6.length : Int) := oa
               obtain ⟨ad1601, e1601, hx1601_0, hx1601_1, hx1601_2, hx1601_3, hx1601_4⟩ := at_T95 HR0_6.out (rd t1594 x84_2) p1601 q1601
               have hw1601_4 := hx1601_4
               have hw1601_3 := hx1601_3
               have hw1601_2 := hx1601_2
               have hw1601_1 := hx1601_1
               have hw1601_0 := hx1601_0
               obtain rfl : ad1599 = ad1601 := (by injection e1601)
               replace hx1601_0 := hc HB hx1601_0
               replace hx1601_1 := hc HB hx1601_1
               replace hx1601_2 := hc HB hx1601_2
               replace hx1601_3 := hc HB hx1601_3
               replace hx1601_4 := hc HB hx1601_4
               replace p1601 := eq_true p1601
               replace q1601 := eq_true q1601
               refine start_ (n := 20) (S := fun w' => w'.cell? ⟨gb1556, 0, none⟩ = some (.bool false) ∧ w'.cell? ⟨gb1556, 1, none⟩ = some (.slice A2_1 l2_1.length c2_1) ∧ w'.cell? ⟨gb1556, 2, none⟩ = some (.slice A2_2 l2_2.length c2_2) ∧ w'.cell? ⟨gb1555, 0, none⟩ = some (.slice A0_0 l0_0.length c0_0) ∧ w'.cell? ⟨gb1555, 1, none⟩ = some (.int .i64 a0_1) ∧ w'.cell? ⟨gb1555, 2, none⟩ = some (.int .i64 a0_2) ∧ w'.cell? ⟨gb1555, 3, none⟩ = some (.int .i64 a0_3) ∧ w'.cell? ⟨gb1555, 4, none⟩ = some (.slice A0_4 l0_4.length c0_4) ∧ w'.cell? ⟨gb1555, 5, none⟩ = some (.bool a0_5) ∧ w'.cell? ⟨gb1555, 6, none⟩ = some (.slice (some ad1599) l0_6.length c0_6) ∧ w'.cell? ⟨gb1555, 7, none⟩ = some (.slice A0_7 l0_7.length c0_7) ∧ w'.cell? ⟨gb1555, 8, none⟩ = some (.slice A0_8 l0_8.length c0_8) ∧ w'.cell? (ad1599.add (((rd t1594 x84_2)).toNat * 5)) = some (.int .i64 ((rd_T95 l0_6 (rd t1594 x84_2)).f0)) ∧ w'.cell? ⟨(ad1599.add (((rd t1594 x84_2)).toNat * 5)).block, (ad1599.add (((rd t1594 x84_2)).toNat * 5)).off + 1, none⟩ = some (.int .i64 ((rd_T95 l0_6 (rd t1594 x84_2)).f1)) ∧ w'.cell? ⟨(ad1599.add (((rd t1594 x84_2)).toNat * 5)).block, (ad1599.add (((rd t1594 x84_2)).toNat * 5)).off + 2, none⟩ = some (.int .i64 ((rd_T95 l0_6 (rd t1594 x84_2)).f2)) ∧ w'.cell? ⟨(ad1599.add (((rd t1594 x84_2)).toNat * 5)).block, (ad1599.add (((rd t1594 x84_2)).toNat * 5)).off + 3, none⟩ = some (.int .i64 ((rd_T95 l0_6 (rd t1594 x84_2)).f3)) ∧ w'.cell? ⟨(ad1599.add (((rd t1594 x84_2)).toNat * 5)).block, (ad1599.add (((rd t1594 x84_2)).toNat * 5)).off + 4, none⟩ = some (.int .i64 ((rd_T95 l0_6 (rd t1594 x84_2)).f4)) ∧ w'.cell? (ad1599.add (((rd t1594 x84_2)).toNat * 5)) = some (.int .i64 ((rd_T95 l0_6 (rd t1594 x84_2)).f0)) ∧ w'.cell? ⟨(ad1599.add (((rd t1594 x84_2)).toNat * 5)).block, (ad1599.add (((rd t1594 x84_2)).toNat * 5)).off + 1, none⟩ = some (.int .i64 ((rd_T95 l0_6 (rd t1594 x84_2)).f1)) ∧ w'.cell? ⟨(ad1599.add (((rd t1594 x84_2)).toNat * 5)).block, (ad1599.add (((rd t1594 x84_2)).toNat * 5)).off + 2, none⟩ = some (.int .i64 ((rd_T95 l0_6 (rd t1594 x84_2)).f2)) ∧ w'.cell? ⟨(ad1599.add (((rd t1594 x84_2)).toNat * 5)).block, (ad1599.add (((rd t1594 x84_2)).toNat * 5)).off + 3, none⟩ = some (.int .i64 ((rd_T95 l0_6 (rd t1594 x84_2)).f3)) ∧ w'.cell? ⟨(ad1599.add (((rd t1594 x84_2)).toNat * 5)).block, (ad1599.add (((rd t1594 x84_2)).toNat * 5)).off + 4, none⟩ = some (.int .i64 ((rd_T95 l0_6 (rd t1594 x84_2)).f4))) (ds := []) #[false, false, false, false, false, false, false, false, false, false, false, false, false, false, false, false, false, false, false, false] (by kernel_rfl) rfl rfl ⟨bc BK1556 0, bc BK1556 1, bc BK1556 2, bc BK1555 0, bc BK1555 1, bc BK1555 2, bc BK1555 3, bc BK1555 4, bc BK1555 5, bc BK1555 6, bc BK1555 7, bc BK1555 8, (hc HB hw1599_0), (hc HB hw1599_1), (hc HB hw1599_2), (hc HB hw1599_3), (hc HB hw1599_4), (hc HB hw1601_0), (hc HB hw1601_1), (hc HB hw1601_2), (hc HB hw1601_3), (hc HB hw1601_4)⟩ (fun hHeld => ?_); refine with_tabW impl_CheckLead.tab19 impl_CheckLead.bits19 (fun HT_ HW_ => ?_)
               generalize wr.drew = w106 at HO_82 BK1555 BK1556 HB hx1599_0 hx1599_1 hx1599_2 hx1599_3 hx1599_4 hx1601_0 hx1601_1 hx1601_2 hx1601_3 hx1601_4 hHeld ⊢
               refine pz_ 0 88 ?_
               refine pz_ 2 90 ?_
               refine pz_ 4 92 ?_
               refine tk_ 1 89 ?_
               refine tk_ 3 91 ?_
               refine pz_ 5 93 ?_
               refine pz_ 6 94 ?_
               refine tk_ 7 95 ?_
               refine on_ 8 (some 96) (fun K hK => ?_)
               refine ga_ Try.func95 #[.slice A2_2 l2_2.length c2_2, .int .i64 ((rd_T95 l0_6 (rd t1594 x84_2)).f0)] ?_
               with_reducible refine (slices_Contains_int_int.calls k2 _ _ l2_2 ((rd_T95 l0_6 (rd t1594 x84_2)).f0) true _ ?side1 ?side2 A101.out).mono ?_
               (case side1 => exact cc HR2_2 HB)
               (case side2 => exact HC2_2.out)
               rintro e w' ⟨rfl, ⟨nd, rfl⟩⟩
               refine ⟨_, rfl, ?_⟩
               refine hK.out _ _ ⟨bc BK1556 0, bc BK1556 1, bc BK1556 2, bc BK1555 0, bc BK1555 1, bc BK1555 2, bc BK1555 3, bc BK1555 4, bc BK1555 5, bc BK1555 6, bc BK1555 7, bc BK1555 8, (hc HB hw1599_0), (hc HB hw1599_1), (hc HB hw1599_2), (hc HB hw1599_3), (hc HB hw1599_4), (hc HB hw1601_0), (hc HB hw1601_1), (hc HB hw1601_2), (hc HB hw1601_3), (hc HB hw1601_4)⟩ (fun hHeld => ?_)
               clear hK K
               refine no_ ?_
               refine pz_ 9 97 ?_
               refine pz_ 10 98 ?_
               refine pz_ 12 100 ?_
               refine pz_ 14 102 ?_
               refine tk_ 11 99 ?_
               refine tk_ 13 101 ?_
               refine pz_ 15 103 ?_
               refine pz_ 16 104 ?_
               refine tk_ 17 105 ?_
               refine on_ 18 (some 106) (fun K hK => ?_)
               refine ga_ Try.func95 #[.slice A2_2 l2_2.length c2_2, .int .i64 ((rd_T95 l0_6 (rd t1594 x84_2)).f1)] ?_
               with_reducible refine (slices_Contains_int_int.calls k2 _ _ l2_2 ((rd_T95 l0_6 (rd t1594 x84_2)).f1) false _ ?side1 ?side2 A103.out).mono ?_
               (case side1 => repeat (first | exact (Kd.C_below HR2_2.out (bb HB)) | (with_reducible refine Kd.C_alloc ?_ _) | (with_reducible refine Kd.C_drewN ?_ _) | (with_reducible refine Kd.C_drew ?_)))
               (case side2 => exact HC2_2.out)
               rintro e w' ⟨rfl, ⟨nd, rfl⟩⟩
               refine ⟨_, rfl, ?_⟩
               refine hK.out _ _ ⟨bc BK1556 0, bc BK1556 1, bc BK1556 2, bc BK1555 0, bc BK1555 1, bc BK1555 2, bc BK1555 3, bc BK1555 4, bc BK1555 5, bc BK1555 6, bc BK1555 7, bc BK1555 8, (hc HB hw1599_0), (hc HB hw1599_1), (hc HB hw1599_2), (hc HB hw1599_3), (hc HB hw1599_4), (hc HB hw1601_0), (hc HB hw1601_1), (hc HB hw1601_2), (hc HB hw1601_3), (hc HB hw1601_4)⟩ (fun hHeld => ?_)
               clear hK K
               refine no_ ?_
               refine pz_ 19 107 ?_
               refine done_ (done_of HT_.out (by kernel_rfl)) ?_
               try go_wp2
               go_roundg k2
               case measure => have := HK1.out; have := HK2.out; omega
               case rel => exact ⟨(x8_2), (wrap64 (x84_2 + 1)), e2_, e2_, H', ⟨by have := HK1.out; have := HK2.out; omega⟩, ⟨rr HO_82⟩, ⟨bk BK1555⟩, ⟨bk BK1556⟩, ⟨bb HB⟩⟩
             ·replace c102 := Bool.eq_false_iff.mpr c102
              subst c102
              rw [if_neg (show ¬ (false = true) by decide)] at H
              have H' := dk H
              clear H
              have p1598 : 0 ≤ (x84_2 : Int) := oa
              have q1598 : x84_2 < (t1594.length : Int) := oa
              obtain ⟨ad1598, e1598, hx1598_0⟩ := Kd.at_int (Kd.R_reads' HO_82.out).2.2 x84_2 p1598 q1598
              cases e1598
              replace p1598 := eq_true p1598
              replace q1598 := eq_true q1598
              try go_wp2
              replace HO_82 := dk (Kd.R_drew HO_82.out)
              replace BK1555 := dk (blk_drew BK1555.out)
              replace BK1556 := dk (blk_drew BK1556.out)
              replace HB := dk (below_drew1 HB.out)
              have p1599 : 0 ≤ ((rd t1594 x84_2) : Int) := oa
              have q1599 : (rd t1594 x84_2) < (l0_6.length : Int) := oa
              obtain ⟨ad1599, e1599, hx1599_0, hx1599_1, hx1599_2, hx1599_3, hx1599_4⟩ := at_T95 HR0_6.out (rd t1594 x84_2) p1599 q1599
              have hw1599_4 := hx1599_4
              have hw1599_3 := hx1599_3
              have hw1599_2 := hx1599_2
              have hw1599_1 := hx1599_1
              have hw1599_0 := hx1599_0
              cases e1599
              replace hx1599_0 := hc HB hx1599_0
              replace hx1599_1 := hc HB hx1599_1
              replace hx1599_2 := hc HB hx1599_2
              replace hx1599_3 := hc HB hx1599_3
              replace hx1599_4 := hc HB hx1599_4
              replace p1599 := eq_true p1599
              replace q1599 := eq_true q1599
              refine start_ (n := 20) (S := fun w' => w'.cell? ⟨gb1556, 0, none⟩ = some (.bool false) ∧ w'.cell? ⟨gb1556, 1, none⟩ = some (.slice A2_1 l2_1.length c2_1) ∧ w'.cell? ⟨gb1556, 2, none⟩ = some (.slice A2_2 l2_2.length c2_2) ∧ w'.cell? ⟨gb1555, 0, none⟩ = some (.slice A0_0 l0_0.length c0_0) ∧ w'.cell? ⟨gb1555, 1, none⟩ = some (.int .i64 a0_1) ∧ w'.cell? ⟨gb1555, 2, none⟩ = some (.int .i64 a0_2) ∧ w'.cell? ⟨gb1555, 3, none⟩ = some (.int .i64 a0_3) ∧ w'.cell? ⟨gb1555, 4, none⟩ = some (.slice A0_4 l0_4.length c0_4) ∧ w'.cell? ⟨gb1555, 5, none⟩ = some (.bool a0_5) ∧ w'.cell? ⟨gb1555, 6, none⟩ = some (.slice (some ad1599) l0_6.length c0_6) ∧ w'.cell? ⟨gb1555, 7, none⟩ = some (.slice A0_7 l0_7.length c0_7) ∧ w'.cell? ⟨gb1555, 8, none⟩ = some (.slice A0_8 l0_8.length c0_8) ∧ w'.cell? (ad1599.add (((rd t1594 x84_2)).toNat * 5)) = some (.int .i64 ((rd_T95 l0_6 (rd t1594 x84_2)).f0)) ∧ w'.cell? ⟨(ad1599.add (((rd t1594 x84_2)).toNat * 5)).block, (ad1599.add (((rd t1594 x84_2)).toNat * 5)).off + 1, none⟩ = some (.int .i64 ((rd_T95 l0_6 (rd t1594 x84_2)).f1)) ∧ w'.cell? ⟨(ad1599.add (((rd t1594 x84_2)).toNat * 5)).block, (ad1599.add (((rd t1594 x84_2)).toNat * 5)).off + 2, none⟩ = some (.int .i64 ((rd_T95 l0_6 (rd t1594 x84_2)).f2)) ∧ w'.cell? ⟨(ad1599.add (((rd t1594 x84_2)).toNat * 5)).block, (ad1599.add (((rd t1594 x84_2)).toNat * 5)).off + 3, none⟩ = some (.int .i64 ((rd_T95 l0_6 (rd t1594 x84_2)).f3)) ∧ w'.cell? ⟨(ad1599.add (((rd t1594 x84_2)).toNat * 5)).block, (ad1599.add (((rd t1594 x84_2)).toNat * 5)).off + 4, none⟩ = some (.int .i64 ((rd_T95 l0_6 (rd t1594 x84_2)).f4))) (ds := []) #[false, false, false, false, false, false, false, false, false, false, false, false, false, false, false, false, false, false, false, false] (by kernel_rfl) rfl rfl ⟨bc BK1556 0, bc BK1556 1, bc BK1556 2, bc BK1555 0, bc BK1555 1, bc BK1555 2, bc BK1555 3, bc BK1555 4, bc BK1555 5, bc BK1555 6, bc BK1555 7, bc BK1555 8, (hc HB hw1599_0), (hc HB hw1599_1), (hc HB hw1599_2), (hc HB hw1599_3), (hc HB hw1599_4)⟩ (fun hHeld => ?_); refine with_tabW impl_CheckLead.tab19 impl_CheckLead.bits19 (fun HT_ HW_ => ?_)
              generalize wr.drew = w107 at HO_82 BK1555 BK1556 HB hx1599_0 hx1599_1 hx1599_2 hx1599_3 hx1599_4 hHeld ⊢
              refine pz_ 0 88 ?_
              refine pz_ 2 90 ?_
              refine pz_ 4 92 ?_
              refine tk_ 1 89 ?_
              refine tk_ 3 91 ?_
              refine pz_ 5 93 ?_
              refine pz_ 6 94 ?_
              refine tk_ 7 95 ?_
              refine on_ 8 (some 96) (fun K hK => ?_)
              refine ga_ Try.func95 #[.slice A2_2 l2_2.length c2_2, .int .i64 ((rd_T95 l0_6 (rd t1594 x84_2)).f0)] ?_
              with_reducible refine (slices_Contains_int_int.calls k2 _ _ l2_2 ((rd_T95 l0_6 (rd t1594 x84_2)).f0) false _ ?side1 ?side2 A101.out).mono ?_
              (case side1 => exact cc HR2_2 HB)
              (case side2 => exact HC2_2.out)
              rintro e w' ⟨rfl, ⟨nd, rfl⟩⟩
              refine ⟨_, rfl, ?_⟩
              refine hK.out _ _ ⟨bc BK1556 0, bc BK1556 1, bc BK1556 2, bc BK1555 0, bc BK1555 1, bc BK1555 2, bc BK1555 3, bc BK1555 4, bc BK1555 5, bc BK1555 6, bc BK1555 7, bc BK1555 8, (hc HB hw1599_0), (hc HB hw1599_1), (hc HB hw1599_2), (hc HB hw1599_3), (hc HB hw1599_4)⟩ (fun hHeld => ?_)
              clear hK K
              refine no_ ?_
              refine pz_ 9 97 ?_
              refine pu_ 10 98 ?_
              refine pu_ 11 99 ?_
              refine pu_ 12 100 ?_
              refine pu_ 13 101 ?_
              refine pu_ 14 102 ?_
              refine pu_ 15 103 ?_
              refine pu_ 16 104 ?_
              refine pu_ 17 105 ?_
              refine pu_ 18 106 ?_
              refine pz_ 19 107 ?_
              refine done_ (done_of HT_.out (by kernel_rfl)) ?_
              try go_wp2
              go_roundg k2
              case measure => have := HK1.out; have := HK2.out; omega
              case rel => exact ⟨(x8_2), (wrap64 (x84_2 + 1)), e2_, e2_, H', ⟨by have := HK1.out; have := HK2.out; omega⟩, ⟨rr HO_82⟩, ⟨bk BK1555⟩, ⟨bk BK1556⟩, ⟨bb HB⟩⟩
            ·rw [if_neg c100] at H
             exact absurd H (by simp)
           ·rw [if_neg c99] at H
            exact absurd H (by simp)
          ·rw [if_neg c98] at H
           exact absurd H (by simp)
         ·rw [if_neg c97] at H
          exact absurd H (by simp)
        ·rw [if_neg c96] at H
         have c96b0 := decide_eq_false c96
         clear c96
         by_cases c108 : (l2_2.length : Int) > 0
         ·rw [if_pos c108] at H
          have c108b0 := decide_eq_true c108
          have c108b1 : decide (0 < l2_2.length) = true := decide_eq_true (by omega)
          clear c108
          replace H := Option.bind_eq_some_iff.mp H
          obtain ⟨t1597, A1090, H⟩ := H
          try dsimp only at H
          have A109 := dk A1090
          clear A1090
          obtain rfl := Option.some.inj H
          try go_wp2
          replace HO_82 := dk (Kd.R_drew HO_82.out)
          replace BK1555 := dk (blk_drew BK1555.out)
          replace BK1556 := dk (blk_drew BK1556.out)
          replace HB := dk (below_drew1 HB.out)
          refine start_ (n := 16) (S := fun w' => hd3 w' gb1556 (.bool false) (.slice A2_1 l2_1.length c2_1) (.slice A2_2 l2_2.length c2_2) ∧ hd9 w' gb1555 (.slice A0_0 l0_0.length c0_0) (.int .i64 a0_1) (.int .i64 a0_2) (.int .i64 a0_3) (.slice A0_4 l0_4.length c0_4) (.bool a0_5) (.slice A0_6 l0_6.length c0_6) (.slice A0_7 l0_7.length c0_7) (.slice A0_8 l0_8.length c0_8)) (ds := []) #[false, false, false, false, false, false, false, false, false, false, false, false, false, false, false, false] (by kernel_rfl) rfl rfl ⟨rb3 BK1556, rb9 BK1555⟩ (fun hHeld => ?_); refine with_tabW impl_CheckLead.tab22 impl_CheckLead.bits22 (fun HT_ HW_ => ?_)
          generalize wr.drew = w110 at HO_82 BK1555 BK1556 HB hHeld ⊢
          refine pz_ 0 111 ?_
          refine tk_ 1 112 ?_
          refine pz_ 2 113 ?_
          refine pz_ 3 114 ?_
          refine pz_ 4 115 ?_
          refine pz_ 5 116 ?_
          refine pz_ 6 117 ?_
          refine pz_ 10 121 ?_
          refine tk_ 7 118 ?_
          refine pz_ 8 119 ?_
          refine tk_ 9 120 ?_
          refine on_ 11 (some 122) (fun K hK => ?_)
          refine ga_ Try.func96 #[.agg #[.slice A0_0 l0_0.length c0_0, .int .i64 a0_1, .int .i64 a0_2, .int .i64 a0_3, .slice A0_4 l0_4.length c0_4, .bool a0_5, .slice A0_6 l0_6.length c0_6, .slice A0_7 l0_7.length c0_7, .slice A0_8 l0_8.length c0_8], .int .i64 a1] ?_
          with_reducible refine (impl_best.calls k2 _ _ l0_0 a0_1 a0_2 a0_3 _ _ l0_4 a0_5 _ _ l0_6 _ _ l0_7 _ _ l0_8 a1 t1597 _ ?side1 ?side2 ?side3 ?side4 ?side5 ?side6 ?side7 ?side8 ?side9 ?side10 A109.out).mono ?_
          (case side1 => exact cc HR0_0 HB)
          (case side2 => exact HC0_0.out)
          (case side3 => exact cc HR0_4 HB)
          (case side4 => exact HC0_4.out)
          (case side5 => exact cc HR0_6 HB)
          (case side6 => exact HC0_6.out)
          (case side7 => exact cc HR0_7 HB)
          (case side8 => exact HC0_7.out)
          (case side9 => exact cc HR0_8 HB)
          (case side10 => exact HC0_8.out)
          rintro e w111 ⟨rfl, hb⟩
          refine ⟨_, rfl, ?_⟩
          replace HO_82 := kr HO_82 hb
          replace BK1555 := kb BK1555 hb
          replace BK1556 := kb BK1556 hb
          replace HB := hs_ HB hb
          refine hK.out _ _ ⟨rb3 BK1556, rb9 BK1555⟩ (fun hHeld => ?_)
          clear hK K
          refine no_ ?_
          refine pz_ 12 123 ?_
          refine pz_ 13 124 ?_
          refine pz_ 14 125 ?_
          refine pz_ 15 6 ?_
          refine done_ (done_of HT_.out (by kernel_rfl)) ?_
          try go_wp2
          go_ret
          exact ⟨ee, bb HB⟩
         ·rw [if_neg c108] at H
          have c108b0 := decide_eq_false c108
          have c108b1 : decide (0 < l2_2.length) = false := decide_eq_false (by omega)
          clear c108
          obtain rfl := Option.some.inj H
          try go_wp2
          replace HO_82 := dk (Kd.R_drew HO_82.out)
          replace BK1555 := dk (blk_drew BK1555.out)
          replace BK1556 := dk (blk_drew BK1556.out)
          replace HB := dk (below_drew1 HB.out)
          refine start_ (n := 16) (S := fun w' => hd3 w' gb1556 (.bool false) (.slice A2_1 l2_1.length c2_1) (.slice A2_2 l2_2.length c2_2)) (ds := []) #[false, false, false, false, false, false, false, false, false, false, false, false, false, false, false, false] (by kernel_rfl) rfl rfl (rb3 BK1556) (fun hHeld => ?_); refine with_tabW impl_CheckLead.tab22 impl_CheckLead.bits22 (fun HT_ HW_ => ?_)
          generalize wr.drew = w112 at HO_82 BK1555 BK1556 HB hHeld ⊢
          refine pz_ 0 111 ?_
          refine tk_ 1 112 ?_
          refine pz_ 2 113 ?_
          refine pz_ 3 114 ?_
          refine pz_ 4 115 ?_
          refine pu_ 5 116 ?_
          refine pu_ 6 117 ?_
          refine pu_ 7 118 ?_
          refine pu_ 8 119 ?_
          refine pu_ 9 120 ?_
          refine pu_ 10 121 ?_
          refine pu_ 11 122 ?_
          refine pu_ 12 123 ?_
          refine pu_ 13 124 ?_
          refine pz_ 14 125 ?_
          refine pz_ 15 6 ?_
          refine done_ (done_of HT_.out (by kernel_rfl)) ?_
          try go_wp2
          go_ret
          exact ⟨ee, bb HB⟩
 ·replace c5 := Bool.eq_false_iff.mpr c5
  subst c5
  rw [if_neg (show ¬ (false = true) by decide)] at H
  obtain rfl := Option.some.inj H
  go_enter Try.func34, Try.ntmps34
  go_wp2_with (first | ((with_reducible refine gdst_ 3 rfl ?_); (try (refine gate_guard (by rfl) ?_; dsimp only)); refine bx (N := 3) (cs := #[.slice A0_0 l0_0.length c0_0, .int .i64 a0_1, .int .i64 a0_2, .int .i64 a0_3, .slice A0_4 l0_4.length c0_4, .bool a0_5, .slice A0_6 l0_6.length c0_6, .slice A0_7 l0_7.length c0_7, .slice A0_8 l0_8.length c0_8]) (t := 36) ?_; intro gb1555 hg w113 hbox hb; have BK1555 := dk (hbox); have GW1555 := gs hg HB; have GE1555 := gs hg HB; replace HB := hs_ HB hb; clear hb hbox hg) | ((with_reducible refine gdst_ 5 rfl ?_); (try (refine gate_guard (by rfl) ?_; dsimp only)); refine bx (N := 5) (cs := #[.bool a2_0, .slice A2_1 l2_1.length c2_1, .slice A2_2 l2_2.length c2_2]) (t := 62) ?_; intro gb1556 hg w114 hbox hb; have BK1556 := dk (hbox); have GW1556 := gs hg HB; have GE1556 := gs hg HB; replace HB := hs_ HB hb; have NB1555_1556 := gn hg BK1555; have NB1556_1555 := gm hg BK1555; replace BK1555 := kb BK1555 hb; clear hb hbox hg; have hnb115 := NB1555_1556.out; have hnc115 := NB1556_1555.out; have ⟨z116_0, z116_1, z116_2, z116_3, z116_4, z116_5, z116_6, z116_7, z116_8, v116_0, v116_1, v116_2, v116_3, v116_4, v116_5, v116_6, v116_7, v116_8⟩ := rz9 BK1555) | ((with_reducible refine gcallee_ 89 rfl ?_); refine gl (some 16) Try.func89 #[.agg #[.slice A0_0 l0_0.length c0_0, .int .i64 a0_1, .int .i64 a0_2, .int .i64 a0_3, .slice A0_4 l0_4.length c0_4, .bool a0_5, .slice A0_6 l0_6.length c0_6, .slice A0_7 l0_7.length c0_7, .slice A0_8 l0_8.length c0_8], .int .i64 a1] ?_; (with_reducible refine (impl_isLead.calls k _ _ l0_0 a0_1 a0_2 a0_3 _ _ l0_4 a0_5 _ _ l0_6 _ _ l0_7 _ _ l0_8 a1 false _ ?side1 ?side2 ?side3 ?side4 ?side5 ?side6 ?side7 ?side8 ?side9 ?side10 A4.out).mono ?_); (case side1 => exact cc HR0_0 HB); (case side2 => exact HC0_0.out); (case side3 => exact cc HR0_4 HB); (case side4 => exact HC0_4.out); (case side5 => exact cc HR0_6 HB); (case side6 => exact HC0_6.out); (case side7 => exact cc HR0_7 HB); (case side8 => exact HC0_7.out); (case side9 => exact cc HR0_8 HB); (case side10 => exact HC0_8.out); rintro e w117 ⟨rfl, hb⟩; refine ⟨_, rfl, ?_⟩; replace BK1555 := kb BK1555 hb; replace BK1556 := kb BK1556 hb; replace HB := hs_ HB hb))
  go_ret
  exact ⟨ee, bb HB⟩
end Go.Proofs.Ythfefanapneocaa.Q
end
namespace Go.Proofs.Ythfefanapneocaa.Q
open Go.RowKit Go.Proofs.YthfefanapneocaaW.PrintWords Go.Proofs.YthfefanapneocaaW.PrintLast Go.Proofs.YthfefanapneocaaW.PrintMore
attribute [local go_sem] max2_int min2_int max_two min_two max_three min_three max_four min_four
set_option linter.unusedVariables false
set_option linter.unusedSimpArgs false
set_option maxRecDepth 100000
set_option maxHeartbeats 8000000
def laws_eqVerdict.f (k : Nat) (a0_0 : Bool) (l0_1 : List Int) (l0_2 : List Int) (a1_0 : Bool) (l1_1 : List Int) (l1_2 : List Int) : Option (Bool) := if (a0_0 != a1_0) = true then (some false) else ((laws_eqIntS.f k l0_1 l1_1).bind fun t1605 => (if t1605 = true then ((laws_eqIntS.f k l0_2 l1_2).bind fun t1606 => (if t1606 = true then (some true) else (some false))) else (some false)))
theorem laws_eqVerdict.calls (k : Nat) (a0_0 : Bool) (A0_1 : Option Addr) (c0_1 : Nat) (l0_1 : List Int) (A0_2 : Option Addr) (c0_2 : Nat) (l0_2 : List Int) (a1_0 : Bool) (A1_1 : Option Addr) (c1_1 : Nat) (l1_1 : List Int) (A1_2 : Option Addr) (c1_2 : Nat) (l1_2 : List Int) (r : Bool) (w : World) (hr0_1 : Kd.C (Kd.int .i64) w A0_1 l0_1.length l0_1) (hc0_1 : l0_1.length ≤ c0_1) (hr0_2 : Kd.C (Kd.int .i64) w A0_2 l0_2.length l0_2) (hc0_2 : l0_2.length ≤ c0_2) (hr1_1 : Kd.C (Kd.int .i64) w A1_1 l1_1.length l1_1) (hc1_1 : l1_1.length ≤ c1_1) (hr1_2 : Kd.C (Kd.int .i64) w A1_2 l1_2.length l1_2) (hc1_2 : l1_2.length ≤ c1_2) (h : laws_eqVerdict.f k a0_0 l0_1 l0_2 a1_0 l1_1 l1_2 = some r) :
  Calls Try.prog 35 #[.agg #[.bool a0_0, .slice A0_1 l0_1.length c0_1, .slice A0_2 l0_2.length c0_2], .agg #[.bool a1_0, .slice A1_1 l1_1.length c1_1, .slice A1_2 l1_2.length c1_2]] w fun e w' => e = .returned (.bool r) ∧ Below w.heap.size w w' := by
 have hu62 := Try.underlying62
 have HR0_1 := dk hr0_1
 have HC0_1 := dk hc0_1
 clear hr0_1 hc0_1
 have HR0_2 := dk hr0_2
 have HC0_2 := dk hc0_2
 clear hr0_2 hc0_2
 have HR1_1 := dk hr1_1
 have HC1_1 := dk hc1_1
 clear hr1_1 hc1_1
 have HR1_2 := dk hr1_2
 have HC1_2 := dk hc1_2
 clear hr1_2 hc1_2
 have HB := hb0 w
 have H : (if (a0_0 != a1_0) = true then (some false) else ((laws_eqIntS.f k l0_1 l1_1).bind fun t1605 => (if t1605 = true then ((laws_eqIntS.f k l0_2 l1_2).bind fun t1606 => (if t1606 = true then (some true) else (some false))) else (some false)))) = some r := h
 clear h
 by_cases c3 : (a0_0 != a1_0) = true
 ·rw [if_pos c3] at H
  have c3b0 : (a0_0 != a1_0) = true := c3
  (try (have c3b1 : decide (a0_0 = a1_0) = false := by simpa using c3))
  (try (have c3b2 : (a0_0 == a1_0) = false := by simpa using c3))
  (try (have c3b3 : ¬ (a0_0 = a1_0) := by simpa using c3))
  clear c3
  obtain rfl := Option.some.inj H
  go_enter Try.func35, Try.ntmps35
  go_wp2_with (first | ((with_reducible refine gdst_ 2 rfl ?_); refine bx (N := 2) (cs := #[.bool a0_0, .slice A0_1 l0_1.length c0_1, .slice A0_2 l0_2.length c0_2]) (t := 62) ?_; intro gb1603 hg w4 hbox hb; have BK1603 := dk (hbox); have GW1603 := gs hg HB; have GE1603 := gs hg HB; replace HB := hs_ HB hb; clear hb hbox hg) | ((with_reducible refine gdst_ 3 rfl ?_); refine bx (N := 3) (cs := #[.bool a1_0, .slice A1_1 l1_1.length c1_1, .slice A1_2 l1_2.length c1_2]) (t := 62) ?_; intro gb1604 hg w5 hbox hb; have BK1604 := dk (hbox); have GW1604 := gs hg HB; have GE1604 := gs hg HB; replace HB := hs_ HB hb; have NB1603_1604 := gn hg BK1603; have NB1604_1603 := gm hg BK1603; replace BK1603 := kb BK1603 hb; clear hb hbox hg; have hnb6 := NB1603_1604.out; have hnc6 := NB1604_1603.out; have ⟨z7_0, z7_1, z7_2, v7_0, v7_1, v7_2⟩ := rz3 BK1603; have ⟨z8_0, z8_1, z8_2, v8_0, v8_1, v8_2⟩ := rz3 BK1604))
  go_ret
  exact ⟨ee, bb HB⟩
 ·rw [if_neg c3] at H
  have c3b0 : (a0_0 != a1_0) = false := by simpa using c3
  (try (have c3b1 : decide (a0_0 = a1_0) = true := by simpa using c3))
  (try (have c3b2 : (a0_0 == a1_0) = true := by simpa using c3))
  clear c3
  replace H := Option.bind_eq_some_iff.mp H
  obtain ⟨t1605, A90, H⟩ := H
  try dsimp only at H
  have A9 := dk A90
  clear A90
  by_cases c10 : t1605 = true
  ·subst c10
   rw [if_pos rfl] at H
   replace H := Option.bind_eq_some_iff.mp H
   obtain ⟨t1606, A110, H⟩ := H
   try dsimp only at H
   have A11 := dk A110
   clear A110
   by_cases c12 : t1606 = true
   ·subst c12
    rw [if_pos rfl] at H
    obtain rfl := Option.some.inj H
    go_enter Try.func35, Try.ntmps35
    go_wp2_with (first | ((with_reducible refine gdst_ 2 rfl ?_); refine bx (N := 2) (cs := #[.bool a0_0, .slice A0_1 l0_1.length c0_1, .slice A0_2 l0_2.length c0_2]) (t := 62) ?_; intro gb1603 hg w13 hbox hb; have BK1603 := dk (hbox); have GW1603 := gs hg HB; have GE1603 := gs hg HB; replace HB := hs_ HB hb; clear hb hbox hg) | ((with_reducible refine gdst_ 3 rfl ?_); refine bx (N := 3) (cs := #[.bool a1_0, .slice A1_1 l1_1.length c1_1, .slice A1_2 l1_2.length c1_2]) (t := 62) ?_; intro gb1604 hg w14 hbox hb; have BK1604 := dk (hbox); have GW1604 := gs hg HB; have GE1604 := gs hg HB; replace HB := hs_ HB hb; have NB1603_1604 := gn hg BK1603; have NB1604_1603 := gm hg BK1603; replace BK1603 := kb BK1603 hb; clear hb hbox hg; have hnb15 := NB1603_1604.out; have hnc15 := NB1604_1603.out; have ⟨z16_0, z16_1, z16_2, v16_0, v16_1, v16_2⟩ := rz3 BK1603; have ⟨z17_0, z17_1, z17_2, v17_0, v17_1, v17_2⟩ := rz3 BK1604) | ((with_reducible refine gcallee_ 28 rfl ?_); refine gl (some 14) Try.func28 #[.slice A0_1 l0_1.length c0_1, .slice A1_1 l1_1.length c1_1] ?_; (with_reducible refine (laws_eqIntS.calls k _ _ l0_1 _ _ l1_1 true _ ?side1 ?side2 ?side3 ?side4 A9.out).mono ?_); (case side1 => exact cc HR0_1 HB); (case side2 => exact HC0_1.out); (case side3 => exact cc HR1_1 HB); (case side4 => exact HC1_1.out); rintro e w' ⟨rfl, ⟨nd, rfl⟩⟩; refine ⟨_, rfl, ?_⟩) | ((with_reducible refine gcallee_ 28 rfl ?_); refine gl (some 20) Try.func28 #[.slice A0_2 l0_2.length c0_2, .slice A1_2 l1_2.length c1_2] ?_; (with_reducible refine (laws_eqIntS.calls k _ _ l0_2 _ _ l1_2 true _ ?side1 ?side2 ?side3 ?side4 A11.out).mono ?_); (case side1 => repeat (first | exact (Kd.C_below HR0_2.out (bb HB)) | (with_reducible refine Kd.C_alloc ?_ _) | (with_reducible refine Kd.C_drewN ?_ _) | (with_reducible refine Kd.C_drew ?_))); (case side2 => exact HC0_2.out); (case side3 => repeat (first | exact (Kd.C_below HR1_2.out (bb HB)) | (with_reducible refine Kd.C_alloc ?_ _) | (with_reducible refine Kd.C_drewN ?_ _) | (with_reducible refine Kd.C_drew ?_))); (case side4 => exact HC1_2.out); rintro e w' ⟨rfl, ⟨nd, rfl⟩⟩; refine ⟨_, rfl, ?_⟩))
    go_ret
    exact ⟨ee, bb HB⟩
   ·replace c12 := Bool.eq_false_iff.mpr c12
    subst c12
    rw [if_neg (show ¬ (false = true) by decide)] at H
    obtain rfl := Option.some.inj H
    go_enter Try.func35, Try.ntmps35
    go_wp2_with (first | ((with_reducible refine gdst_ 2 rfl ?_); refine bx (N := 2) (cs := #[.bool a0_0, .slice A0_1 l0_1.length c0_1, .slice A0_2 l0_2.length c0_2]) (t := 62) ?_; intro gb1603 hg w18 hbox hb; have BK1603 := dk (hbox); have GW1603 := gs hg HB; have GE1603 := gs hg HB; replace HB := hs_ HB hb; clear hb hbox hg) | ((with_reducible refine gdst_ 3 rfl ?_); refine bx (N := 3) (cs := #[.bool a1_0, .slice A1_1 l1_1.length c1_1, .slice A1_2 l1_2.length c1_2]) (t := 62) ?_; intro gb1604 hg w19 hbox hb; have BK1604 := dk (hbox); have GW1604 := gs hg HB; have GE1604 := gs hg HB; replace HB := hs_ HB hb; have NB1603_1604 := gn hg BK1603; have NB1604_1603 := gm hg BK1603; replace BK1603 := kb BK1603 hb; clear hb hbox hg; have hnb20 := NB1603_1604.out; have hnc20 := NB1604_1603.out; have ⟨z21_0, z21_1, z21_2, v21_0, v21_1, v21_2⟩ := rz3 BK1603; have ⟨z22_0, z22_1, z22_2, v22_0, v22_1, v22_2⟩ := rz3 BK1604) | ((with_reducible refine gcallee_ 28 rfl ?_); refine gl (some 14) Try.func28 #[.slice A0_1 l0_1.length c0_1, .slice A1_1 l1_1.length c1_1] ?_; (with_reducible refine (laws_eqIntS.calls k _ _ l0_1 _ _ l1_1 true _ ?side1 ?side2 ?side3 ?side4 A9.out).mono ?_); (case side1 => exact cc HR0_1 HB); (case side2 => exact HC0_1.out); (case side3 => exact cc HR1_1 HB); (case side4 => exact HC1_1.out); rintro e w' ⟨rfl, ⟨nd, rfl⟩⟩; refine ⟨_, rfl, ?_⟩) | ((with_reducible refine gcallee_ 28 rfl ?_); refine gl (some 20) Try.func28 #[.slice A0_2 l0_2.length c0_2, .slice A1_2 l1_2.length c1_2] ?_; (with_reducible refine (laws_eqIntS.calls k _ _ l0_2 _ _ l1_2 false _ ?side1 ?side2 ?side3 ?side4 A11.out).mono ?_); (case side1 => repeat (first | exact (Kd.C_below HR0_2.out (bb HB)) | (with_reducible refine Kd.C_alloc ?_ _) | (with_reducible refine Kd.C_drewN ?_ _) | (with_reducible refine Kd.C_drew ?_))); (case side2 => exact HC0_2.out); (case side3 => repeat (first | exact (Kd.C_below HR1_2.out (bb HB)) | (with_reducible refine Kd.C_alloc ?_ _) | (with_reducible refine Kd.C_drewN ?_ _) | (with_reducible refine Kd.C_drew ?_))); (case side4 => exact HC1_2.out); rintro e w' ⟨rfl, ⟨nd, rfl⟩⟩; refine ⟨_, rfl, ?_⟩))
    go_ret
    exact ⟨ee, bb HB⟩
  ·replace c10 := Bool.eq_false_iff.mpr c10
   subst c10
   rw [if_neg (show ¬ (false = true) by decide)] at H
   obtain rfl := Option.some.inj H
   go_enter Try.func35, Try.ntmps35
   go_wp2_with (first | ((with_reducible refine gdst_ 2 rfl ?_); refine bx (N := 2) (cs := #[.bool a0_0, .slice A0_1 l0_1.length c0_1, .slice A0_2 l0_2.length c0_2]) (t := 62) ?_; intro gb1603 hg w23 hbox hb; have BK1603 := dk (hbox); have GW1603 := gs hg HB; have GE1603 := gs hg HB; replace HB := hs_ HB hb; clear hb hbox hg) | ((with_reducible refine gdst_ 3 rfl ?_); refine bx (N := 3) (cs := #[.bool a1_0, .slice A1_1 l1_1.length c1_1, .slice A1_2 l1_2.length c1_2]) (t := 62) ?_; intro gb1604 hg w24 hbox hb; have BK1604 := dk (hbox); have GW1604 := gs hg HB; have GE1604 := gs hg HB; replace HB := hs_ HB hb; have NB1603_1604 := gn hg BK1603; have NB1604_1603 := gm hg BK1603; replace BK1603 := kb BK1603 hb; clear hb hbox hg; have hnb25 := NB1603_1604.out; have hnc25 := NB1604_1603.out; have ⟨z26_0, z26_1, z26_2, v26_0, v26_1, v26_2⟩ := rz3 BK1603; have ⟨z27_0, z27_1, z27_2, v27_0, v27_1, v27_2⟩ := rz3 BK1604) | ((with_reducible refine gcallee_ 28 rfl ?_); refine gl (some 14) Try.func28 #[.slice A0_1 l0_1.length c0_1, .slice A1_1 l1_1.length c1_1] ?_; (with_reducible refine (laws_eqIntS.calls k _ _ l0_1 _ _ l1_1 false _ ?side1 ?side2 ?side3 ?side4 A9.out).mono ?_); (case side1 => exact cc HR0_1 HB); (case side2 => exact HC0_1.out); (case side3 => exact cc HR1_1 HB); (case side4 => exact HC1_1.out); rintro e w' ⟨rfl, ⟨nd, rfl⟩⟩; refine ⟨_, rfl, ?_⟩))
   go_ret
   exact ⟨ee, bb HB⟩
def laws_FnExactCheckLead.f (k : Nat) (l0_0 : List (S133)) (a0_1 : Int) (a0_2 : Int) (a0_3 : Int) (l0_4 : List Int) (a0_5 : Bool) (l0_6 : List (S147)) (l0_7 : List Int) (l0_8 : List Int) (a1 : Int) (a2_0 : Bool) (l2_1 : List Int) (l2_2 : List Int) : Option (Bool) := (laws_szBook.f k l0_0 a0_1 a0_2 a0_3 l0_4 a0_5 l0_6 l0_7 l0_8 1048576).bind fun t1609 => (if t1609 < 0 then (some true) else ((laws_szVerdict.f a2_0 l2_1 l2_2 t1609).bind fun t1610 => (if t1610 < 0 then (some true) else ((laws_toBook.f k l0_0 a0_1 a0_2 a0_3 l0_4 a0_5 l0_6 l0_7 l0_8).bind fun bt1611 => ((laws_toVerdict.f k a2_0 l2_1 l2_2).bind fun bt1630 => ((spec_CheckLead.f k bt1611.1 bt1611.2.1 bt1611.2.2.1 bt1611.2.2.2.1 bt1611.2.2.2.2.1 bt1611.2.2.2.2.2.1 bt1611.2.2.2.2.2.2.1 bt1611.2.2.2.2.2.2.2.1 bt1611.2.2.2.2.2.2.2.2 a1 bt1630.1 bt1630.2.1 bt1630.2.2).bind fun t1637 => ((laws_toBook.f k l0_0 a0_1 a0_2 a0_3 l0_4 a0_5 l0_6 l0_7 l0_8).bind fun bt1638 => ((laws_toVerdict.f k a2_0 l2_1 l2_2).bind fun bt1658 => ((impl_CheckLead.f k bt1638.1 bt1638.2.1 bt1638.2.2.1 bt1638.2.2.2.1 bt1638.2.2.2.2.1 bt1638.2.2.2.2.2.1 bt1638.2.2.2.2.2.2.1 bt1638.2.2.2.2.2.2.2.1 bt1638.2.2.2.2.2.2.2.2 a1 bt1658.1 bt1658.2.1 bt1658.2.2).bind fun t1666 => (if (t1666 != t1637) = true then (some false) else ((laws_toBook.f k l0_0 a0_1 a0_2 a0_3 l0_4 a0_5 l0_6 l0_7 l0_8).bind fun bt1667 => ((laws_eqBook.f k bt1638.1 bt1638.2.1 bt1638.2.2.1 bt1638.2.2.2.1 bt1638.2.2.2.2.1 bt1638.2.2.2.2.2.1 bt1638.2.2.2.2.2.2.1 bt1638.2.2.2.2.2.2.2.1 bt1638.2.2.2.2.2.2.2.2 bt1667.1 bt1667.2.1 bt1667.2.2.1 bt1667.2.2.2.1 bt1667.2.2.2.2.1 bt1667.2.2.2.2.2.1 bt1667.2.2.2.2.2.2.1 bt1667.2.2.2.2.2.2.2.1 bt1667.2.2.2.2.2.2.2.2).bind fun t1686 => (if t1686 = true then ((laws_toVerdict.f k a2_0 l2_1 l2_2).bind fun bt1687 => ((laws_eqVerdict.f k bt1658.1 bt1658.2.1 bt1658.2.2 bt1687.1 bt1687.2.1 bt1687.2.2).bind fun t1694 => (if t1694 = true then (some true) else (some false)))) else (some false))))))))))))))
theorem laws_FnExactCheckLead.calls (k : Nat) (A0_0 : Option Addr) (c0_0 : Nat) (l0_0 : List (S133)) (a0_1 : Int) (a0_2 : Int) (a0_3 : Int) (A0_4 : Option Addr) (c0_4 : Nat) (l0_4 : List Int) (a0_5 : Bool) (A0_6 : Option Addr) (c0_6 : Nat) (l0_6 : List (S147)) (A0_7 : Option Addr) (c0_7 : Nat) (l0_7 : List Int) (A0_8 : Option Addr) (c0_8 : Nat) (l0_8 : List Int) (a1 : Int) (a2_0 : Bool) (A2_1 : Option Addr) (c2_1 : Nat) (l2_1 : List Int) (A2_2 : Option Addr) (c2_2 : Nat) (l2_2 : List Int) (r : Bool) (w : World) (hr0_0 : Kd.C k133 w A0_0 l0_0.length l0_0) (hc0_0 : l0_0.length ≤ c0_0) (hr0_4 : Kd.C (Kd.int .i64) w A0_4 l0_4.length l0_4) (hc0_4 : l0_4.length ≤ c0_4) (hr0_6 : Kd.C k147 w A0_6 l0_6.length l0_6) (hc0_6 : l0_6.length ≤ c0_6) (hr0_7 : Kd.C (Kd.int .i64) w A0_7 l0_7.length l0_7) (hc0_7 : l0_7.length ≤ c0_7) (hr0_8 : Kd.C (Kd.int .i64) w A0_8 l0_8.length l0_8) (hc0_8 : l0_8.length ≤ c0_8) (hr2_1 : Kd.C (Kd.int .i64) w A2_1 l2_1.length l2_1) (hc2_1 : l2_1.length ≤ c2_1) (hr2_2 : Kd.C (Kd.int .i64) w A2_2 l2_2.length l2_2) (hc2_2 : l2_2.length ≤ c2_2) (h : laws_FnExactCheckLead.f k l0_0 a0_1 a0_2 a0_3 l0_4 a0_5 l0_6 l0_7 l0_8 a1 a2_0 l2_1 l2_2 = some r) :
  Calls Try.prog 7 #[.agg #[.slice A0_0 l0_0.length c0_0, .int .i64 a0_1, .int .i64 a0_2, .int .i64 a0_3, .slice A0_4 l0_4.length c0_4, .bool a0_5, .slice A0_6 l0_6.length c0_6, .slice A0_7 l0_7.length c0_7, .slice A0_8 l0_8.length c0_8], .int .i64 a1, .agg #[.bool a2_0, .slice A2_1 l2_1.length c2_1, .slice A2_2 l2_2.length c2_2]] w fun e w' => e = .returned (.bool r) ∧ Below w.heap.size w w' := by
 have hu28 := Try.underlying28
 have hu59 := Try.underlying59
 have hu36 := Try.underlying36
 have hu62 := Try.underlying62
 have HR0_0 := dk hr0_0
 have HC0_0 := dk hc0_0
 clear hr0_0 hc0_0
 have HR0_4 := dk hr0_4
 have HC0_4 := dk hc0_4
 clear hr0_4 hc0_4
 have HR0_6 := dk hr0_6
 have HC0_6 := dk hc0_6
 clear hr0_6 hc0_6
 have HR0_7 := dk hr0_7
 have HC0_7 := dk hc0_7
 clear hr0_7 hc0_7
 have HR0_8 := dk hr0_8
 have HC0_8 := dk hc0_8
 clear hr0_8 hc0_8
 have HR2_1 := dk hr2_1
 have HC2_1 := dk hc2_1
 clear hr2_1 hc2_1
 have HR2_2 := dk hr2_2
 have HC2_2 := dk hc2_2
 clear hr2_2 hc2_2
 have HB := hb0 w
 have H : ((laws_szBook.f k l0_0 a0_1 a0_2 a0_3 l0_4 a0_5 l0_6 l0_7 l0_8 1048576).bind fun t1609 => (if t1609 < 0 then (some true) else ((laws_szVerdict.f a2_0 l2_1 l2_2 t1609).bind fun t1610 => (if t1610 < 0 then (some true) else ((laws_toBook.f k l0_0 a0_1 a0_2 a0_3 l0_4 a0_5 l0_6 l0_7 l0_8).bind fun bt1611 => ((laws_toVerdict.f k a2_0 l2_1 l2_2).bind fun bt1630 => ((spec_CheckLead.f k bt1611.1 bt1611.2.1 bt1611.2.2.1 bt1611.2.2.2.1 bt1611.2.2.2.2.1 bt1611.2.2.2.2.2.1 bt1611.2.2.2.2.2.2.1 bt1611.2.2.2.2.2.2.2.1 bt1611.2.2.2.2.2.2.2.2 a1 bt1630.1 bt1630.2.1 bt1630.2.2).bind fun t1637 => ((laws_toBook.f k l0_0 a0_1 a0_2 a0_3 l0_4 a0_5 l0_6 l0_7 l0_8).bind fun bt1638 => ((laws_toVerdict.f k a2_0 l2_1 l2_2).bind fun bt1658 => ((impl_CheckLead.f k bt1638.1 bt1638.2.1 bt1638.2.2.1 bt1638.2.2.2.1 bt1638.2.2.2.2.1 bt1638.2.2.2.2.2.1 bt1638.2.2.2.2.2.2.1 bt1638.2.2.2.2.2.2.2.1 bt1638.2.2.2.2.2.2.2.2 a1 bt1658.1 bt1658.2.1 bt1658.2.2).bind fun t1666 => (if (t1666 != t1637) = true then (some false) else ((laws_toBook.f k l0_0 a0_1 a0_2 a0_3 l0_4 a0_5 l0_6 l0_7 l0_8).bind fun bt1667 => ((laws_eqBook.f k bt1638.1 bt1638.2.1 bt1638.2.2.1 bt1638.2.2.2.1 bt1638.2.2.2.2.1 bt1638.2.2.2.2.2.1 bt1638.2.2.2.2.2.2.1 bt1638.2.2.2.2.2.2.2.1 bt1638.2.2.2.2.2.2.2.2 bt1667.1 bt1667.2.1 bt1667.2.2.1 bt1667.2.2.2.1 bt1667.2.2.2.2.1 bt1667.2.2.2.2.2.1 bt1667.2.2.2.2.2.2.1 bt1667.2.2.2.2.2.2.2.1 bt1667.2.2.2.2.2.2.2.2).bind fun t1686 => (if t1686 = true then ((laws_toVerdict.f k a2_0 l2_1 l2_2).bind fun bt1687 => ((laws_eqVerdict.f k bt1658.1 bt1658.2.1 bt1658.2.2 bt1687.1 bt1687.2.1 bt1687.2.2).bind fun t1694 => (if t1694 = true then (some true) else (some false)))) else (some false))))))))))))))) = some r := h
 clear h
 replace H := Option.bind_eq_some_iff.mp H
 obtain ⟨t1609, A40, H⟩ := H
 try dsimp only at H
 have A4 := dk A40
 clear A40
 have HC5 := dk H
 clear H
 go_enter Try.func7, Try.ntmps7
 go_upto_if 16 with (first | ((with_reducible refine gdst_ 3 rfl ?_); refine bx (N := 3) (cs := #[.slice A0_0 l0_0.length c0_0, .int .i64 a0_1, .int .i64 a0_2, .int .i64 a0_3, .slice A0_4 l0_4.length c0_4, .bool a0_5, .slice A0_6 l0_6.length c0_6, .slice A0_7 l0_7.length c0_7, .slice A0_8 l0_8.length c0_8]) (t := 28) ?_; intro gb1607 hg w6 hbox hb; have BK1607 := dk (hbox); have GW1607 := gs hg HB; have GE1607 := gs hg HB; replace HB := hs_ HB hb; clear hb hbox hg) | ((with_reducible refine gdst_ 5 rfl ?_); refine bx (N := 5) (cs := #[.bool a2_0, .slice A2_1 l2_1.length c2_1, .slice A2_2 l2_2.length c2_2]) (t := 59) ?_; intro gb1608 hg w7 hbox hb; have BK1608 := dk (hbox); have GW1608 := gs hg HB; have GE1608 := gs hg HB; replace HB := hs_ HB hb; have NB1607_1608 := gn hg BK1607; have NB1608_1607 := gm hg BK1607; replace BK1607 := kb BK1607 hb; clear hb hbox hg; have hnb8 := NB1607_1608.out; have hnc8 := NB1608_1607.out; have ⟨z9_0, z9_1, z9_2, z9_3, z9_4, z9_5, z9_6, z9_7, z9_8, v9_0, v9_1, v9_2, v9_3, v9_4, v9_5, v9_6, v9_7, v9_8⟩ := rz9 BK1607) | ((with_reducible refine gcallee_ 10 rfl ?_); refine gl (some 14) Try.func10 #[.agg #[.slice A0_0 l0_0.length c0_0, .int .i64 a0_1, .int .i64 a0_2, .int .i64 a0_3, .slice A0_4 l0_4.length c0_4, .bool a0_5, .slice A0_6 l0_6.length c0_6, .slice A0_7 l0_7.length c0_7, .slice A0_8 l0_8.length c0_8], .int .i64 1048576] ?_; (with_reducible refine (laws_szBook.calls k _ _ l0_0 a0_1 a0_2 a0_3 _ _ l0_4 a0_5 _ _ l0_6 _ _ l0_7 _ _ l0_8 1048576 t1609 _ ?side1 ?side2 ?side3 ?side4 ?side5 ?side6 ?side7 ?side8 ?side9 ?side10 A4.out).mono ?_); (case side1 => exact cc HR0_0 HB); (case side2 => exact HC0_0.out); (case side3 => exact cc HR0_4 HB); (case side4 => exact HC0_4.out); (case side5 => exact cc HR0_6 HB); (case side6 => exact HC0_6.out); (case side7 => exact cc HR0_7 HB); (case side8 => exact HC0_7.out); (case side9 => exact cc HR0_8 HB); (case side10 => exact HC0_8.out); rintro e w10 ⟨rfl, hb⟩; refine ⟨_, rfl, ?_⟩; replace BK1607 := kb BK1607 hb; replace BK1608 := kb BK1608 hb; replace HB := hs_ HB hb))
 (try simp only [Act.put, List.setIfInBounds_toArray, List.set_cons_zero, List.set_cons_succ])
 have H := HC5.out
 clear HC5
 by_cases c11 : t1609 < 0
 ·rw [if_pos c11] at H
  have c11b0 := decide_eq_true c11
  clear c11
  (first | rw [c11b0] | rw [c11b1] | (simp only [i64_w, i32_w]; rw [c11b0]) | skip)
  obtain rfl := Option.some.inj H
  go_wp2
  go_ret
  exact ⟨ee, bb HB⟩
 ·rw [if_neg c11] at H
  have c11b0 := decide_eq_false c11
  clear c11
  (first | rw [c11b0] | rw [c11b1] | (simp only [i64_w, i32_w]; rw [c11b0]) | skip)
  replace H := Option.bind_eq_some_iff.mp H
  obtain ⟨t1610, A120, H⟩ := H
  try dsimp only at H
  have A12 := dk A120
  clear A120
  have HC13 := dk H
  clear H
  have hnb14 := NB1608_1607.out
  have hnc14 := NB1607_1608.out
  have ⟨z15_0, z15_1, z15_2, v15_0, v15_1, v15_2⟩ := rz3 BK1608
  go_upto_if 21 with (first | ((with_reducible refine gcallee_ 31 rfl ?_); refine gl (some 19) Try.func31 #[.agg #[.bool a2_0, .slice A2_1 l2_1.length c2_1, .slice A2_2 l2_2.length c2_2], .int .i64 t1609] ?_; (with_reducible refine (laws_szVerdict.calls a2_0 _ _ l2_1 _ _ l2_2 t1609 t1610 _ ?side1 ?side2 ?side3 ?side4 A12.out).mono ?_); (case side1 => exact cc HR2_1 HB); (case side2 => exact HC2_1.out); (case side3 => exact cc HR2_2 HB); (case side4 => exact HC2_2.out); rintro e w16 ⟨rfl, hb⟩; refine ⟨_, rfl, ?_⟩; replace BK1607 := kb BK1607 hb; replace BK1608 := kb BK1608 hb; replace HB := hs_ HB hb))
  (try simp only [Act.put, List.setIfInBounds_toArray, List.set_cons_zero, List.set_cons_succ])
  have H := HC13.out
  clear HC13
  by_cases c17 : t1610 < 0
  ·rw [if_pos c17] at H
   have c17b0 := decide_eq_true c17
   clear c17
   (first | rw [c17b0] | rw [c17b1] | (simp only [i64_w, i32_w]; rw [c17b0]) | skip)
   obtain rfl := Option.some.inj H
   go_wp2
   go_ret
   exact ⟨ee, bb HB⟩
  ·rw [if_neg c17] at H
   have c17b0 := decide_eq_false c17
   clear c17
   (first | rw [c17b0] | rw [c17b1] | (simp only [i64_w, i32_w]; rw [c17b0]) | skip)
   replace H := Option.bind_eq_some_iff.mp H
   obtain ⟨⟨t1611, t1614, t1615, t1616, t1617, t1620, t1621, t1624, t1627⟩, A180, H⟩ := H
   try dsimp only at H
   have A18 := dk A180
   clear A180
   replace H := Option.bind_eq_some_iff.mp H
   obtain ⟨⟨t1630, t1631, t1634⟩, A190, H⟩ := H
   try dsimp only at H
   have A19 := dk A190
   clear A190
   replace H := Option.bind_eq_some_iff.mp H
   obtain ⟨t1637, A200, H⟩ := H
   try dsimp only at H
   have A20 := dk A200
   clear A200
   replace H := Option.bind_eq_some_iff.mp H
   obtain ⟨⟨t1638, t1641, t1642, t1643, t1644, t1647, t1648, t1651, t1654⟩, A210, H⟩ := H
   try dsimp only at H
   have A21 := dk A210
   clear A210
   replace H := Option.bind_eq_some_iff.mp H
   obtain ⟨⟨t1658, t1659, t1662⟩, A220, H⟩ := H
   try dsimp only at H
   have A22 := dk A220
   clear A220
   replace H := Option.bind_eq_some_iff.mp H
   obtain ⟨t1666, A230, H⟩ := H
   try dsimp only at H
   have A23 := dk A230
   clear A230
   have HC24 := dk H
   clear H
   try go_wp2
   replace BK1607 := dk (blk_drew BK1607.out)
   replace BK1608 := dk (blk_drew BK1608.out)
   replace HB := dk (below_drew1 HB.out)
   refine start_ (n := 7) (S := fun w' => hd9 w' gb1607 (.slice A0_0 l0_0.length c0_0) (.int .i64 a0_1) (.int .i64 a0_2) (.int .i64 a0_3) (.slice A0_4 l0_4.length c0_4) (.bool a0_5) (.slice A0_6 l0_6.length c0_6) (.slice A0_7 l0_7.length c0_7) (.slice A0_8 l0_8.length c0_8) ∧ hd3 w' gb1608 (.bool a2_0) (.slice A2_1 l2_1.length c2_1) (.slice A2_2 l2_2.length c2_2)) (ds := []) #[false, false, false, false, false, false, false] (by kernel_rfl) rfl rfl ⟨rb9 BK1607, rb3 BK1608⟩ (fun hHeld => ?_)
   generalize w16.drew = w25 at BK1607 BK1608 HB hHeld ⊢
   refine pure_ (i := 2) (N := some 24) (v := ?_) (a' := ?_) #[false, false, true, false, false, false, false] rfl rfl (by kernel_rfl) (fun _ _ _ h => h) (Or.inl ⟨by rfl, ?_⟩) ?_ ?_
   rotate_left
   ·intro w'
    go_simp
    with_reducible rfl
   rotate_left
   ·simp only [Act.put, List.setIfInBounds_toArray, List.set_cons_zero, List.set_cons_succ, i64_w, i32_w]
    rfl
   refine tk_ 0 22 ?_
   refine tk_ 3 25 ?_
   refine on_ 1 (some 23) (fun K hK => ?_)
   refine ga_ Try.func13 #[.agg #[.slice A0_0 l0_0.length c0_0, .int .i64 a0_1, .int .i64 a0_2, .int .i64 a0_3, .slice A0_4 l0_4.length c0_4, .bool a0_5, .slice A0_6 l0_6.length c0_6, .slice A0_7 l0_7.length c0_7, .slice A0_8 l0_8.length c0_8]] ?_
   with_reducible refine (laws_toBook.calls k _ _ l0_0 a0_1 a0_2 a0_3 _ _ l0_4 a0_5 _ _ l0_6 _ _ l0_7 _ _ l0_8 t1611 t1614 t1615 t1616 t1617 t1620 t1621 t1624 t1627 _ ?side1 ?side2 ?side3 ?side4 ?side5 ?side6 ?side7 ?side8 ?side9 ?side10 A18.out).mono ?_
   (case side1 => exact cc HR0_0 HB)
   (case side2 => exact HC0_0.out)
   (case side3 => exact cc HR0_4 HB)
   (case side4 => exact HC0_4.out)
   (case side5 => exact cc HR0_6 HB)
   (case side6 => exact HC0_6.out)
   (case side7 => exact cc HR0_7 HB)
   (case side8 => exact HC0_7.out)
   (case side9 => exact cc HR0_8 HB)
   (case side10 => exact HC0_8.out)
   rintro e w26 ⟨v1612, v1618, v1622, v1625, v1628, rfl, ho0, ho1, ho2, ho3, ho4, hb⟩
   refine ⟨_, rfl, ?_⟩
   have HO1613 := kl ho0 HB
   have HO1619 := kl ho1 HB
   have HO1623 := kl ho2 HB
   have HO1626 := kl ho3 HB
   have HO1629 := kl ho4 HB
   replace BK1607 := kb BK1607 hb
   replace BK1608 := kb BK1608 hb
   replace HB := hs_ HB hb
   refine hK.out _ _ ⟨rb9 BK1607, rb3 BK1608⟩ (fun hHeld => ?_)
   clear hK K
   refine no_ ?_
   refine on_ 4 (some 26) (fun K hK => ?_)
   refine ga_ Try.func33 #[.agg #[.bool a2_0, .slice A2_1 l2_1.length c2_1, .slice A2_2 l2_2.length c2_2]] ?_
   with_reducible refine (laws_toVerdict.calls k a2_0 _ _ l2_1 _ _ l2_2 t1630 t1631 t1634 _ ?side1 ?side2 ?side3 ?side4 A19.out).mono ?_
   (case side1 => exact cc HR2_1 HB)
   (case side2 => exact HC2_1.out)
   (case side3 => exact cc HR2_2 HB)
   (case side4 => exact HC2_2.out)
   rintro e w27 ⟨v1632, v1635, rfl, ho0, ho1, hb⟩
   refine ⟨_, rfl, ?_⟩
   replace HO1613 := kr HO1613 hb
   replace HO1623 := kr HO1623 hb
   have HO1633 := dk (Kd.R_lower (Kd.R_new' (Kd.R_new' (Kd.R_new' ho0 (rt HO1619)) (rt HO1626)) (rt HO1629)) (below_size (bb HB)))
   have HO1636 := dk (Kd.R_lower (Kd.R_new' (Kd.R_new' (Kd.R_new' ho1 (rt HO1619)) (rt HO1626)) (rt HO1629)) (below_size (bb HB)))
   replace HO1619 := dk (Kd.R_mono (Kd.R_told (Kd.R_told (Kd.R_old (rr HO1619) hb) (Kd.R_base ho0)) (Kd.R_base ho1)) (fun _ h_ => h_.1))
   replace HO1626 := dk (Kd.R_mono (Kd.R_told (Kd.R_told (Kd.R_old (rr HO1626) hb) (Kd.R_base ho0)) (Kd.R_base ho1)) (fun _ h_ => h_.1))
   replace HO1629 := dk (Kd.R_mono (Kd.R_told (Kd.R_told (Kd.R_old (rr HO1629) hb) (Kd.R_base ho0)) (Kd.R_base ho1)) (fun _ h_ => h_.1))
   replace BK1607 := kb BK1607 hb
   replace BK1608 := kb BK1608 hb
   replace HB := hs_ HB hb
   obtain ⟨Ao28, co28, eo28⟩ := Kd.R_slice HO1613.out
   (first | subst eo28 | (injection eo28 with f1_ f2_ f3_; have f4_ := f1_.symm; have f5_ := f3_.symm; clear f1_ f2_ f3_; subst f4_; subst f5_))
   obtain ⟨Ao29, co29, eo29⟩ := Kd.R_slice HO1619.out
   (first | subst eo29 | (injection eo29 with f1_ f2_ f3_; have f4_ := f1_.symm; have f5_ := f3_.symm; clear f1_ f2_ f3_; subst f4_; subst f5_))
   obtain ⟨Ao30, co30, eo30⟩ := Kd.R_slice HO1623.out
   (first | subst eo30 | (injection eo30 with f1_ f2_ f3_; have f4_ := f1_.symm; have f5_ := f3_.symm; clear f1_ f2_ f3_; subst f4_; subst f5_))
   obtain ⟨Ao31, co31, eo31⟩ := Kd.R_slice HO1626.out
   (first | subst eo31 | (injection eo31 with f1_ f2_ f3_; have f4_ := f1_.symm; have f5_ := f3_.symm; clear f1_ f2_ f3_; subst f4_; subst f5_))
   obtain ⟨Ao32, co32, eo32⟩ := Kd.R_slice HO1629.out
   (first | subst eo32 | (injection eo32 with f1_ f2_ f3_; have f4_ := f1_.symm; have f5_ := f3_.symm; clear f1_ f2_ f3_; subst f4_; subst f5_))
   obtain ⟨Ao33, co33, eo33⟩ := Kd.R_slice HO1633.out
   (first | subst eo33 | (injection eo33 with f1_ f2_ f3_; have f4_ := f1_.symm; have f5_ := f3_.symm; clear f1_ f2_ f3_; subst f4_; subst f5_))
   obtain ⟨Ao34, co34, eo34⟩ := Kd.R_slice HO1636.out
   (first | subst eo34 | (injection eo34 with f1_ f2_ f3_; have f4_ := f1_.symm; have f5_ := f3_.symm; clear f1_ f2_ f3_; subst f4_; subst f5_))
   refine hK.out _ _ ⟨rb9 BK1607, rb3 BK1608⟩ (fun hHeld => ?_)
   clear hK K
   refine no_ ?_
   refine on_ 5 (some 27) (fun K hK => ?_)
   refine ga_ Try.func32 #[.agg #[.slice Ao28 t1611.length co28, .int .i64 t1614, .int .i64 t1615, .int .i64 t1616, .slice Ao29 t1617.length co29, .bool t1620, .slice Ao30 t1621.length co30, .slice Ao31 t1624.length co31, .slice Ao32 t1627.length co32], .int .i64 a1, .agg #[.bool t1630, .slice Ao33 t1631.length co33, .slice Ao34 t1634.length co34]] ?_
   with_reducible refine (spec_CheckLead.calls k _ _ t1611 t1614 t1615 t1616 _ _ t1617 t1620 _ _ t1621 _ _ t1624 _ _ t1627 a1 t1630 _ _ t1631 _ _ t1634 t1637 _ ?side1 ?side2 ?side3 ?side4 ?side5 ?side6 ?side7 ?side8 ?side9 ?side10 ?side11 ?side12 ?side13 ?side14 A20.out).mono ?_
   (case side1 => exact cr HO1613)
   (case side2 => exact (Kd.R_reads' HO1613.out).2.1)
   (case side3 => exact cr HO1619)
   (case side4 => exact (Kd.R_reads' HO1619.out).2.1)
   (case side5 => exact cr HO1623)
   (case side6 => exact (Kd.R_reads' HO1623.out).2.1)
   (case side7 => exact cr HO1626)
   (case side8 => exact (Kd.R_reads' HO1626.out).2.1)
   (case side9 => exact cr HO1629)
   (case side10 => exact (Kd.R_reads' HO1629.out).2.1)
   (case side11 => exact cr HO1633)
   (case side12 => exact (Kd.R_reads' HO1633.out).2.1)
   (case side13 => exact cr HO1636)
   (case side14 => exact (Kd.R_reads' HO1636.out).2.1)
   rintro e w35 ⟨rfl, hb⟩
   refine ⟨_, rfl, ?_⟩
   replace HO1613 := kr HO1613 hb
   replace HO1619 := kr HO1619 hb
   replace HO1623 := kr HO1623 hb
   replace HO1626 := kr HO1626 hb
   replace HO1629 := kr HO1629 hb
   replace HO1633 := kr HO1633 hb
   replace HO1636 := kr HO1636 hb
   replace BK1607 := kb BK1607 hb
   replace BK1608 := kb BK1608 hb
   replace HB := hs_ HB hb
   refine hK.out _ _ ⟨rb9 BK1607, rb3 BK1608⟩ (fun hHeld => ?_)
   clear hK K
   refine no_ ?_
   refine pure_ (i := 6) (N := some 8) (v := ?_) (a' := ?_) #[true, true, true, true, true, true, true] rfl rfl (by kernel_rfl) (fun _ _ _ h => h) (Or.inl ⟨by rfl, ?_⟩) ?_ ?_
   rotate_left
   ·intro w'
    go_simp
    with_reducible rfl
   rotate_left
   ·simp only [Act.put, List.setIfInBounds_toArray, List.set_cons_zero, List.set_cons_succ, i64_w, i32_w]
    rfl
   refine done_ (by kernel_rfl) ?_
   have hnb36 := NB1607_1608.out
   have hnc36 := NB1608_1607.out
   have ⟨z37_0, z37_1, z37_2, z37_3, z37_4, z37_5, z37_6, z37_7, z37_8, v37_0, v37_1, v37_2, v37_3, v37_4, v37_5, v37_6, v37_7, v37_8⟩ := rz9 BK1607
   go_upto_if 38 with (first | ((with_reducible refine gcallee_ 13 rfl ?_); refine gl (some 29) Try.func13 #[.agg #[.slice A0_0 l0_0.length c0_0, .int .i64 a0_1, .int .i64 a0_2, .int .i64 a0_3, .slice A0_4 l0_4.length c0_4, .bool a0_5, .slice A0_6 l0_6.length c0_6, .slice A0_7 l0_7.length c0_7, .slice A0_8 l0_8.length c0_8]] ?_; (with_reducible refine (laws_toBook.calls k _ _ l0_0 a0_1 a0_2 a0_3 _ _ l0_4 a0_5 _ _ l0_6 _ _ l0_7 _ _ l0_8 t1638 t1641 t1642 t1643 t1644 t1647 t1648 t1651 t1654 _ ?side1 ?side2 ?side3 ?side4 ?side5 ?side6 ?side7 ?side8 ?side9 ?side10 A21.out).mono ?_); (case side1 => exact cc HR0_0 HB); (case side2 => exact HC0_0.out); (case side3 => exact cc HR0_4 HB); (case side4 => exact HC0_4.out); (case side5 => exact cc HR0_6 HB); (case side6 => exact HC0_6.out); (case side7 => exact cc HR0_7 HB); (case side8 => exact HC0_7.out); (case side9 => exact cc HR0_8 HB); (case side10 => exact HC0_8.out); rintro e w38 ⟨v1639, v1645, v1649, v1652, v1655, rfl, ho0, ho1, ho2, ho3, ho4, hb⟩; refine ⟨_, rfl, ?_⟩; have HO1640 := dk (Kd.R_lower (Kd.R_new' ho0 (rt HO1613)) (below_size (bb HB))); replace HO1613 := ke HO1613 ho0 hb; have HO1646 := dk (Kd.R_lower (Kd.R_new' (Kd.R_new' (Kd.R_new' (Kd.R_new' (Kd.R_new' ho1 (rt HO1619)) (rt HO1626)) (rt HO1629)) (rt HO1633)) (rt HO1636)) (below_size (bb HB))); have HO1650 := dk (Kd.R_lower (Kd.R_new' ho2 (rt HO1623)) (below_size (bb HB))); replace HO1623 := ke HO1623 ho2 hb; have HO1653 := dk (Kd.R_lower (Kd.R_new' (Kd.R_new' (Kd.R_new' (Kd.R_new' (Kd.R_new' ho3 (rt HO1619)) (rt HO1626)) (rt HO1629)) (rt HO1633)) (rt HO1636)) (below_size (bb HB))); have HO1656 := dk (Kd.R_lower (Kd.R_new' (Kd.R_new' (Kd.R_new' (Kd.R_new' (Kd.R_new' ho4 (rt HO1619)) (rt HO1626)) (rt HO1629)) (rt HO1633)) (rt HO1636)) (below_size (bb HB))); replace HO1619 := dk (Kd.R_mono (Kd.R_told (Kd.R_told (Kd.R_told (Kd.R_old (rr HO1619) hb) (Kd.R_base ho1)) (Kd.R_base ho3)) (Kd.R_base ho4)) (fun _ h_ => h_.1)); replace HO1626 := dk (Kd.R_mono (Kd.R_told (Kd.R_told (Kd.R_told (Kd.R_old (rr HO1626) hb) (Kd.R_base ho1)) (Kd.R_base ho3)) (Kd.R_base ho4)) (fun _ h_ => h_.1)); replace HO1629 := dk (Kd.R_mono (Kd.R_told (Kd.R_told (Kd.R_told (Kd.R_old (rr HO1629) hb) (Kd.R_base ho1)) (Kd.R_base ho3)) (Kd.R_base ho4)) (fun _ h_ => h_.1)); replace HO1633 := dk (Kd.R_mono (Kd.R_told (Kd.R_told (Kd.R_told (Kd.R_old (rr HO1633) hb) (Kd.R_base ho1)) (Kd.R_base ho3)) (Kd.R_base ho4)) (fun _ h_ => h_.1)); replace HO1636 := dk (Kd.R_mono (Kd.R_told (Kd.R_told (Kd.R_told (Kd.R_old (rr HO1636) hb) (Kd.R_base ho1)) (Kd.R_base ho3)) (Kd.R_base ho4)) (fun _ h_ => h_.1)); replace BK1607 := kb BK1607 hb; replace BK1608 := kb BK1608 hb; replace HB := hs_ HB hb) | ((with_reducible refine gdst_ 9 rfl ?_); refine bx (N := 9) (cs := #[.slice none 0 0, .int .i64 0, .int .i64 0, .int .i64 0, .slice none 0 0, .bool false, .slice none 0 0, .slice none 0 0, .slice none 0 0]) (t := 36) ?_; intro gb1657 hg w39 hbox hb; replace HO1613 := kr HO1613 hb; replace HO1619 := kr HO1619 hb; replace HO1623 := kr HO1623 hb; replace HO1626 := kr HO1626 hb; replace HO1629 := kr HO1629 hb; replace HO1633 := kr HO1633 hb; replace HO1636 := kr HO1636 hb; replace HO1640 := kr HO1640 hb; replace HO1646 := kr HO1646 hb; replace HO1650 := kr HO1650 hb; replace HO1653 := kr HO1653 hb; replace HO1656 := kr HO1656 hb; have BK1657 := dk (hbox); have GW1657 := gs hg HB; have GE1657 := gs hg HB; replace HB := hs_ HB hb; have NB1607_1657 := gn hg BK1607; have NB1657_1607 := gm hg BK1607; replace BK1607 := kb BK1607 hb; have NB1608_1657 := gn hg BK1608; have NB1657_1608 := gm hg BK1608; replace BK1608 := kb BK1608 hb; clear hb hbox hg; obtain ⟨Ao40, co40, eo40⟩ := Kd.R_slice HO1640.out; subst eo40; have hnb41 := NB1657_1607.out; have hnc41 := NB1607_1657.out; have hnb42 := NB1657_1608.out; have hnc42 := NB1608_1657.out; have ⟨z43_0, z43_1, z43_2, z43_3, z43_4, z43_5, z43_6, z43_7, z43_8, v43_0, v43_1, v43_2, v43_3, v43_4, v43_5, v43_6, v43_7, v43_8⟩ := rz9 BK1657; obtain ⟨Ao44, co44, eo44⟩ := Kd.R_slice HO1646.out; subst eo44; obtain ⟨Ao45, co45, eo45⟩ := Kd.R_slice HO1650.out; subst eo45; obtain ⟨Ao46, co46, eo46⟩ := Kd.R_slice HO1653.out; subst eo46; obtain ⟨Ao47, co47, eo47⟩ := Kd.R_slice HO1656.out; subst eo47; have ⟨z48_0, z48_1, z48_2, v48_0, v48_1, v48_2⟩ := rz3 BK1608) | ((with_reducible refine gcallee_ 33 rfl ?_); refine gl (some 31) Try.func33 #[.agg #[.bool a2_0, .slice A2_1 l2_1.length c2_1, .slice A2_2 l2_2.length c2_2]] ?_; (with_reducible refine (laws_toVerdict.calls k a2_0 _ _ l2_1 _ _ l2_2 t1658 t1659 t1662 _ ?side1 ?side2 ?side3 ?side4 A22.out).mono ?_); (case side1 => exact Kd.C_below HR2_1.out (bb HB)); (case side2 => exact HC2_1.out); (case side3 => exact Kd.C_below HR2_2.out (bb HB)); (case side4 => exact HC2_2.out); rintro e w49 ⟨v1660, v1663, rfl, ho0, ho1, hb⟩; refine ⟨_, rfl, ?_⟩; replace HO1613 := kf HO1613 BK1657 hb; replace HO1623 := kf HO1623 BK1657 hb; replace HO1640 := kf HO1640 BK1657 hb; replace HO1650 := kf HO1650 BK1657 hb; have HO1661 := dk (Kd.R_lower (Kd.R_new' (Kd.R_new' (Kd.R_new' (Kd.R_new' (Kd.R_new' (Kd.R_new' (Kd.R_new' (Kd.R_new' ho0 (Kd.R_lt (rf HO1619 BK1657 (fun _ h_ => h_.1)))) (Kd.R_lt (rf HO1626 BK1657 (fun _ h_ => h_.1)))) (Kd.R_lt (rf HO1629 BK1657 (fun _ h_ => h_.1)))) (Kd.R_lt (rf HO1633 BK1657 (fun _ h_ => h_.1)))) (Kd.R_lt (rf HO1636 BK1657 (fun _ h_ => h_.1)))) (Kd.R_lt (rf HO1646 BK1657 (fun _ h_ => h_.1)))) (Kd.R_lt (rf HO1653 BK1657 (fun _ h_ => h_.1)))) (Kd.R_lt (rf HO1656 BK1657 (fun _ h_ => h_.1)))) (below_size (bb HB))); have HO1664 := dk (Kd.R_lower (Kd.R_new' (Kd.R_new' (Kd.R_new' (Kd.R_new' (Kd.R_new' (Kd.R_new' (Kd.R_new' (Kd.R_new' ho1 (Kd.R_lt (rf HO1619 BK1657 (fun _ h_ => h_.1)))) (Kd.R_lt (rf HO1626 BK1657 (fun _ h_ => h_.1)))) (Kd.R_lt (rf HO1629 BK1657 (fun _ h_ => h_.1)))) (Kd.R_lt (rf HO1633 BK1657 (fun _ h_ => h_.1)))) (Kd.R_lt (rf HO1636 BK1657 (fun _ h_ => h_.1)))) (Kd.R_lt (rf HO1646 BK1657 (fun _ h_ => h_.1)))) (Kd.R_lt (rf HO1653 BK1657 (fun _ h_ => h_.1)))) (Kd.R_lt (rf HO1656 BK1657 (fun _ h_ => h_.1)))) (below_size (bb HB))); replace HO1619 := dk (Kd.R_mono (Kd.R_told (Kd.R_told (Kd.R_old (rf HO1619 BK1657 (fun _ h_ => h_.1)) hb) (Kd.R_base ho0)) (Kd.R_base ho1)) (fun _ h_ => h_.1)); replace HO1626 := dk (Kd.R_mono (Kd.R_told (Kd.R_told (Kd.R_old (rf HO1626 BK1657 (fun _ h_ => h_.1)) hb) (Kd.R_base ho0)) (Kd.R_base ho1)) (fun _ h_ => h_.1)); replace HO1629 := dk (Kd.R_mono (Kd.R_told (Kd.R_told (Kd.R_old (rf HO1629 BK1657 (fun _ h_ => h_.1)) hb) (Kd.R_base ho0)) (Kd.R_base ho1)) (fun _ h_ => h_.1)); replace HO1633 := dk (Kd.R_mono (Kd.R_told (Kd.R_told (Kd.R_old (rf HO1633 BK1657 (fun _ h_ => h_.1)) hb) (Kd.R_base ho0)) (Kd.R_base ho1)) (fun _ h_ => h_.1)); replace HO1636 := dk (Kd.R_mono (Kd.R_told (Kd.R_told (Kd.R_old (rf HO1636 BK1657 (fun _ h_ => h_.1)) hb) (Kd.R_base ho0)) (Kd.R_base ho1)) (fun _ h_ => h_.1)); replace HO1646 := dk (Kd.R_mono (Kd.R_told (Kd.R_told (Kd.R_old (rf HO1646 BK1657 (fun _ h_ => h_.1)) hb) (Kd.R_base ho0)) (Kd.R_base ho1)) (fun _ h_ => h_.1)); replace HO1653 := dk (Kd.R_mono (Kd.R_told (Kd.R_told (Kd.R_old (rf HO1653 BK1657 (fun _ h_ => h_.1)) hb) (Kd.R_base ho0)) (Kd.R_base ho1)) (fun _ h_ => h_.1)); replace HO1656 := dk (Kd.R_mono (Kd.R_told (Kd.R_told (Kd.R_old (rf HO1656 BK1657 (fun _ h_ => h_.1)) hb) (Kd.R_base ho0)) (Kd.R_base ho1)) (fun _ h_ => h_.1)); replace BK1607 := dk (blk_below (bf NB1607_1657.out BK1607) hb); replace BK1608 := dk (blk_below (bf NB1608_1657.out BK1608) hb); replace BK1657 := dk (blk_below (g := gb1657) (o := .cells #[.slice Ao40 t1638.length co40, .int .i64 t1641, .int .i64 t1642, .int .i64 t1643, .slice Ao44 t1644.length co44, .bool t1647, .slice Ao45 t1648.length co45, .slice Ao46 t1651.length co46, .slice Ao47 t1654.length co47] 36 (0, 0)) (bp BK1657) hb); replace HB := hs_ HB hb) | ((with_reducible refine gdst_ 10 rfl ?_); refine bx (N := 10) (cs := #[.bool false, .slice none 0 0, .slice none 0 0]) (t := 62) ?_; intro gb1665 hg w50 hbox hb; replace HO1613 := kr HO1613 hb; replace HO1619 := kr HO1619 hb; replace HO1623 := kr HO1623 hb; replace HO1626 := kr HO1626 hb; replace HO1629 := kr HO1629 hb; replace HO1633 := kr HO1633 hb; replace HO1636 := kr HO1636 hb; replace HO1640 := kr HO1640 hb; replace HO1646 := kr HO1646 hb; replace HO1650 := kr HO1650 hb; replace HO1653 := kr HO1653 hb; replace HO1656 := kr HO1656 hb; replace HO1661 := kr HO1661 hb; replace HO1664 := kr HO1664 hb; have BK1665 := dk (hbox); have GW1665 := gs hg HB; have GE1665 := gs hg HB; replace HB := hs_ HB hb; have NB1607_1665 := gn hg BK1607; have NB1665_1607 := gm hg BK1607; replace BK1607 := kb BK1607 hb; have NB1608_1665 := gn hg BK1608; have NB1665_1608 := gm hg BK1608; replace BK1608 := kb BK1608 hb; have NB1657_1665 := gn hg BK1657; have NB1665_1657 := gm hg BK1657; replace BK1657 := kb BK1657 hb; clear hb hbox hg; have hnb51 := NB1665_1607.out; have hnc51 := NB1607_1665.out; have hnb52 := NB1665_1608.out; have hnc52 := NB1608_1665.out; have hnb53 := NB1665_1657.out; have hnc53 := NB1657_1665.out; have ⟨z54_0, z54_1, z54_2, v54_0, v54_1, v54_2⟩ := rz3 BK1665; obtain ⟨Ao55, co55, eo55⟩ := Kd.R_slice HO1661.out; subst eo55; obtain ⟨Ao56, co56, eo56⟩ := Kd.R_slice HO1664.out; subst eo56; have ⟨z57_0, z57_1, z57_2, z57_3, z57_4, z57_5, z57_6, z57_7, z57_8, v57_0, v57_1, v57_2, v57_3, v57_4, v57_5, v57_6, v57_7, v57_8⟩ := rz9 BK1657) | ((with_reducible refine gcallee_ 34 rfl ?_); refine gl (some 35) Try.func34 #[.agg #[.slice Ao40 t1638.length co40, .int .i64 t1641, .int .i64 t1642, .int .i64 t1643, .slice Ao44 t1644.length co44, .bool t1647, .slice Ao45 t1648.length co45, .slice Ao46 t1651.length co46, .slice Ao47 t1654.length co47], .int .i64 a1, .agg #[.bool t1658, .slice Ao55 t1659.length co55, .slice Ao56 t1662.length co56]] ?_; (with_reducible refine (impl_CheckLead.calls k _ _ t1638 t1641 t1642 t1643 _ _ t1644 t1647 _ _ t1648 _ _ t1651 _ _ t1654 a1 t1658 _ _ t1659 _ _ t1662 t1666 _ ?side1 ?side2 ?side3 ?side4 ?side5 ?side6 ?side7 ?side8 ?side9 ?side10 ?side11 ?side12 ?side13 ?side14 A23.out).mono ?_); (case side1 => exact cf HO1640 BK1665); (case side2 => exact cl HO1640); (case side3 => exact cf HO1646 BK1665); (case side4 => exact cl HO1646); (case side5 => exact cf HO1650 BK1665); (case side6 => exact cl HO1650); (case side7 => exact cf HO1653 BK1665); (case side8 => exact cl HO1653); (case side9 => exact cf HO1656 BK1665); (case side10 => exact cl HO1656); (case side11 => exact cf HO1661 BK1665); (case side12 => exact cl HO1661); (case side13 => exact cf HO1664 BK1665); (case side14 => exact cl HO1664); rintro e w58 ⟨rfl, hb⟩; refine ⟨_, rfl, ?_⟩; replace HO1613 := kf HO1613 BK1665 hb; replace HO1619 := kf HO1619 BK1665 hb; replace HO1623 := kf HO1623 BK1665 hb; replace HO1626 := kf HO1626 BK1665 hb; replace HO1629 := kf HO1629 BK1665 hb; replace HO1633 := kf HO1633 BK1665 hb; replace HO1636 := kf HO1636 BK1665 hb; replace HO1640 := kf HO1640 BK1665 hb; replace HO1646 := kf HO1646 BK1665 hb; replace HO1650 := kf HO1650 BK1665 hb; replace HO1653 := kf HO1653 BK1665 hb; replace HO1656 := kf HO1656 BK1665 hb; replace HO1661 := kf HO1661 BK1665 hb; replace HO1664 := kf HO1664 BK1665 hb; replace BK1607 := dk (blk_below (bf NB1607_1665.out BK1607) hb); replace BK1608 := dk (blk_below (bf NB1608_1665.out BK1608) hb); replace BK1657 := dk (blk_below (bf NB1657_1665.out BK1657) hb); replace BK1665 := dk (blk_below (g := gb1665) (o := .cells #[.bool t1658, .slice Ao55 t1659.length co55, .slice Ao56 t1662.length co56] 62 (0, 0)) (bp BK1665) hb); replace HB := hs_ HB hb))
   (try simp only [Act.put, List.setIfInBounds_toArray, List.set_cons_zero, List.set_cons_succ])
   have H := HC24.out
   clear HC24
   by_cases c59 : (t1666 != t1637) = true
   ·rw [if_pos c59] at H
    have c59b0 : (t1666 != t1637) = true := c59
    (try (have c59b1 : decide (t1666 = t1637) = false := by simpa using c59))
    (try (have c59b2 : (t1666 == t1637) = false := by simpa using c59))
    (try (have c59b3 : ¬ (t1666 = t1637) := by simpa using c59))
    clear c59
    (first | rw [c59b0] | rw [c59b1] | (simp only [i64_w, i32_w]; rw [c59b0]) | rw [c59b2] | skip)
    obtain rfl := Option.some.inj H
    go_wp2
    go_ret
    exact ⟨ee, bb HB⟩
   ·rw [if_neg c59] at H
    have c59b0 : (t1666 != t1637) = false := by simpa using c59
    (try (have c59b1 : decide (t1666 = t1637) = true := by simpa using c59))
    (try (have c59b2 : (t1666 == t1637) = true := by simpa using c59))
    clear c59
    (first | rw [c59b0] | rw [c59b1] | (simp only [i64_w, i32_w]; rw [c59b0]) | rw [c59b2] | skip)
    replace H := Option.bind_eq_some_iff.mp H
    obtain ⟨⟨t1667, t1670, t1671, t1672, t1673, t1676, t1677, t1680, t1683⟩, A600, H⟩ := H
    try dsimp only at H
    have A60 := dk A600
    clear A600
    replace H := Option.bind_eq_some_iff.mp H
    obtain ⟨t1686, A610, H⟩ := H
    try dsimp only at H
    have A61 := dk A610
    clear A610
    have HC62 := dk H
    clear H
    try go_wp2
    replace HO1613 := dk (Kd.R_drew HO1613.out)
    replace HO1619 := dk (Kd.R_drew HO1619.out)
    replace HO1623 := dk (Kd.R_drew HO1623.out)
    replace HO1626 := dk (Kd.R_drew HO1626.out)
    replace HO1629 := dk (Kd.R_drew HO1629.out)
    replace HO1633 := dk (Kd.R_drew HO1633.out)
    replace HO1636 := dk (Kd.R_drew HO1636.out)
    replace HO1640 := dk (Kd.R_drew HO1640.out)
    replace HO1646 := dk (Kd.R_drew HO1646.out)
    replace HO1650 := dk (Kd.R_drew HO1650.out)
    replace HO1653 := dk (Kd.R_drew HO1653.out)
    replace HO1656 := dk (Kd.R_drew HO1656.out)
    replace HO1661 := dk (Kd.R_drew HO1661.out)
    replace HO1664 := dk (Kd.R_drew HO1664.out)
    replace BK1607 := dk (blk_drew BK1607.out)
    replace BK1608 := dk (blk_drew BK1608.out)
    replace BK1657 := dk (blk_drew BK1657.out)
    replace BK1665 := dk (blk_drew BK1665.out)
    replace HB := dk (below_drew1 HB.out)
    refine start_ (n := 5) (S := fun w' => hd9 w' gb1657 (.slice Ao40 t1638.length co40) (.int .i64 t1641) (.int .i64 t1642) (.int .i64 t1643) (.slice Ao44 t1644.length co44) (.bool t1647) (.slice Ao45 t1648.length co45) (.slice Ao46 t1651.length co46) (.slice Ao47 t1654.length co47) ∧ hd9 w' gb1607 (.slice A0_0 l0_0.length c0_0) (.int .i64 a0_1) (.int .i64 a0_2) (.int .i64 a0_3) (.slice A0_4 l0_4.length c0_4) (.bool a0_5) (.slice A0_6 l0_6.length c0_6) (.slice A0_7 l0_7.length c0_7) (.slice A0_8 l0_8.length c0_8)) (ds := []) #[false, false, false, false, false] (by kernel_rfl) rfl rfl ⟨rb9 BK1657, rb9 BK1607⟩ (fun hHeld => ?_)
    generalize w58.drew = w63 at HO1613 HO1619 HO1623 HO1626 HO1629 HO1633 HO1636 HO1640 HO1646 HO1650 HO1653 HO1656 HO1661 HO1664 BK1607 BK1608 BK1657 BK1665 HB hHeld ⊢
    refine tk_ 0 39 ?_
    refine tk_ 1 40 ?_
    refine on_ 2 (some 41) (fun K hK => ?_)
    refine ga_ Try.func13 #[.agg #[.slice A0_0 l0_0.length c0_0, .int .i64 a0_1, .int .i64 a0_2, .int .i64 a0_3, .slice A0_4 l0_4.length c0_4, .bool a0_5, .slice A0_6 l0_6.length c0_6, .slice A0_7 l0_7.length c0_7, .slice A0_8 l0_8.length c0_8]] ?_
    with_reducible refine (laws_toBook.calls k _ _ l0_0 a0_1 a0_2 a0_3 _ _ l0_4 a0_5 _ _ l0_6 _ _ l0_7 _ _ l0_8 t1667 t1670 t1671 t1672 t1673 t1676 t1677 t1680 t1683 _ ?side1 ?side2 ?side3 ?side4 ?side5 ?side6 ?side7 ?side8 ?side9 ?side10 A60.out).mono ?_
    (case side1 => exact cc HR0_0 HB)
    (case side2 => exact HC0_0.out)
    (case side3 => exact cc HR0_4 HB)
    (case side4 => exact HC0_4.out)
    (case side5 => exact cc HR0_6 HB)
    (case side6 => exact HC0_6.out)
    (case side7 => exact cc HR0_7 HB)
    (case side8 => exact HC0_7.out)
    (case side9 => exact cc HR0_8 HB)
    (case side10 => exact HC0_8.out)
    rintro e w64 ⟨v1668, v1674, v1678, v1681, v1684, rfl, ho0, ho1, ho2, ho3, ho4, hb⟩
    refine ⟨_, rfl, ?_⟩
    have HO1669 := dk (Kd.R_lower (Kd.R_new' (Kd.R_new' ho0 (rt HO1613)) (rt HO1640)) (below_size (bb HB)))
    replace HO1613 := ke HO1613 ho0 hb
    replace HO1640 := ke HO1640 ho0 hb
    have HO1675 := dk (Kd.R_lower (Kd.R_new' (Kd.R_new' (Kd.R_new' (Kd.R_new' (Kd.R_new' (Kd.R_new' (Kd.R_new' (Kd.R_new' (Kd.R_new' (Kd.R_new' ho1 (rt HO1619)) (rt HO1626)) (rt HO1629)) (rt HO1633)) (rt HO1636)) (rt HO1646)) (rt HO1653)) (rt HO1656)) (rt HO1661)) (rt HO1664)) (below_size (bb HB)))
    have HO1679 := dk (Kd.R_lower (Kd.R_new' (Kd.R_new' ho2 (rt HO1623)) (rt HO1650)) (below_size (bb HB)))
    replace HO1623 := ke HO1623 ho2 hb
    replace HO1650 := ke HO1650 ho2 hb
    have HO1682 := dk (Kd.R_lower (Kd.R_new' (Kd.R_new' (Kd.R_new' (Kd.R_new' (Kd.R_new' (Kd.R_new' (Kd.R_new' (Kd.R_new' (Kd.R_new' (Kd.R_new' ho3 (rt HO1619)) (rt HO1626)) (rt HO1629)) (rt HO1633)) (rt HO1636)) (rt HO1646)) (rt HO1653)) (rt HO1656)) (rt HO1661)) (rt HO1664)) (below_size (bb HB)))
    have HO1685 := dk (Kd.R_lower (Kd.R_new' (Kd.R_new' (Kd.R_new' (Kd.R_new' (Kd.R_new' (Kd.R_new' (Kd.R_new' (Kd.R_new' (Kd.R_new' (Kd.R_new' ho4 (rt HO1619)) (rt HO1626)) (rt HO1629)) (rt HO1633)) (rt HO1636)) (rt HO1646)) (rt HO1653)) (rt HO1656)) (rt HO1661)) (rt HO1664)) (below_size (bb HB)))
    replace HO1619 := dk (Kd.R_mono (Kd.R_told (Kd.R_told (Kd.R_told (Kd.R_old (rr HO1619) hb) (Kd.R_base ho1)) (Kd.R_base ho3)) (Kd.R_base ho4)) (fun _ h_ => h_.1))
    replace HO1626 := dk (Kd.R_mono (Kd.R_told (Kd.R_told (Kd.R_told (Kd.R_old (rr HO1626) hb) (Kd.R_base ho1)) (Kd.R_base ho3)) (Kd.R_base ho4)) (fun _ h_ => h_.1))
    replace HO1629 := dk (Kd.R_mono (Kd.R_told (Kd.R_told (Kd.R_told (Kd.R_old (rr HO1629) hb) (Kd.R_base ho1)) (Kd.R_base ho3)) (Kd.R_base ho4)) (fun _ h_ => h_.1))
    replace HO1633 := dk (Kd.R_mono (Kd.R_told (Kd.R_told (Kd.R_told (Kd.R_old (rr HO1633) hb) (Kd.R_base ho1)) (Kd.R_base ho3)) (Kd.R_base ho4)) (fun _ h_ => h_.1))
    replace HO1636 := dk (Kd.R_mono (Kd.R_told (Kd.R_told (Kd.R_told (Kd.R_old (rr HO1636) hb) (Kd.R_base ho1)) (Kd.R_base ho3)) (Kd.R_base ho4)) (fun _ h_ => h_.1))
    replace HO1646 := dk (Kd.R_mono (Kd.R_told (Kd.R_told (Kd.R_told (Kd.R_old (rr HO1646) hb) (Kd.R_base ho1)) (Kd.R_base ho3)) (Kd.R_base ho4)) (fun _ h_ => h_.1))
    replace HO1653 := dk (Kd.R_mono (Kd.R_told (Kd.R_told (Kd.R_told (Kd.R_old (rr HO1653) hb) (Kd.R_base ho1)) (Kd.R_base ho3)) (Kd.R_base ho4)) (fun _ h_ => h_.1))
    replace HO1656 := dk (Kd.R_mono (Kd.R_told (Kd.R_told (Kd.R_told (Kd.R_old (rr HO1656) hb) (Kd.R_base ho1)) (Kd.R_base ho3)) (Kd.R_base ho4)) (fun _ h_ => h_.1))
    replace HO1661 := dk (Kd.R_mono (Kd.R_told (Kd.R_told (Kd.R_told (Kd.R_old (rr HO1661) hb) (Kd.R_base ho1)) (Kd.R_base ho3)) (Kd.R_base ho4)) (fun _ h_ => h_.1))
    replace HO1664 := dk (Kd.R_mono (Kd.R_told (Kd.R_told (Kd.R_told (Kd.R_old (rr HO1664) hb) (Kd.R_base ho1)) (Kd.R_base ho3)) (Kd.R_base ho4)) (fun _ h_ => h_.1))
    replace BK1607 := kb BK1607 hb
    replace BK1608 := kb BK1608 hb
    replace BK1657 := kb BK1657 hb
    replace BK1665 := kb BK1665 hb
    replace HB := hs_ HB hb
    obtain ⟨Ao65, co65, eo65⟩ := Kd.R_slice HO1669.out
    (first | subst eo65 | (injection eo65 with f1_ f2_ f3_; have f4_ := f1_.symm; have f5_ := f3_.symm; clear f1_ f2_ f3_; subst f4_; subst f5_))
    obtain ⟨Ao66, co66, eo66⟩ := Kd.R_slice HO1675.out
    (first | subst eo66 | (injection eo66 with f1_ f2_ f3_; have f4_ := f1_.symm; have f5_ := f3_.symm; clear f1_ f2_ f3_; subst f4_; subst f5_))
    obtain ⟨Ao67, co67, eo67⟩ := Kd.R_slice HO1679.out
    (first | subst eo67 | (injection eo67 with f1_ f2_ f3_; have f4_ := f1_.symm; have f5_ := f3_.symm; clear f1_ f2_ f3_; subst f4_; subst f5_))
    obtain ⟨Ao68, co68, eo68⟩ := Kd.R_slice HO1682.out
    (first | subst eo68 | (injection eo68 with f1_ f2_ f3_; have f4_ := f1_.symm; have f5_ := f3_.symm; clear f1_ f2_ f3_; subst f4_; subst f5_))
    obtain ⟨Ao69, co69, eo69⟩ := Kd.R_slice HO1685.out
    (first | subst eo69 | (injection eo69 with f1_ f2_ f3_; have f4_ := f1_.symm; have f5_ := f3_.symm; clear f1_ f2_ f3_; subst f4_; subst f5_))
    refine hK.out _ _ ⟨rb9 BK1657, rb9 BK1607⟩ (fun hHeld => ?_)
    clear hK K
    refine no_ ?_
    refine on_ 3 (some 42) (fun K hK => ?_)
    refine ga_ Try.func16 #[.agg #[.slice Ao40 t1638.length co40, .int .i64 t1641, .int .i64 t1642, .int .i64 t1643, .slice Ao44 t1644.length co44, .bool t1647, .slice Ao45 t1648.length co45, .slice Ao46 t1651.length co46, .slice Ao47 t1654.length co47], .agg #[.slice Ao65 t1667.length co65, .int .i64 t1670, .int .i64 t1671, .int .i64 t1672, .slice Ao66 t1673.length co66, .bool t1676, .slice Ao67 t1677.length co67, .slice Ao68 t1680.length co68, .slice Ao69 t1683.length co69]] ?_
    with_reducible refine (laws_eqBook.calls k _ _ t1638 t1641 t1642 t1643 _ _ t1644 t1647 _ _ t1648 _ _ t1651 _ _ t1654 _ _ t1667 t1670 t1671 t1672 _ _ t1673 t1676 _ _ t1677 _ _ t1680 _ _ t1683 t1686 _ ?side1 ?side2 ?side3 ?side4 ?side5 ?side6 ?side7 ?side8 ?side9 ?side10 ?side11 ?side12 ?side13 ?side14 ?side15 ?side16 ?side17 ?side18 ?side19 ?side20 A61.out).mono ?_
    (case side1 => exact cr HO1640)
    (case side2 => exact (Kd.R_reads' HO1640.out).2.1)
    (case side3 => exact cr HO1646)
    (case side4 => exact (Kd.R_reads' HO1646.out).2.1)
    (case side5 => exact cr HO1650)
    (case side6 => exact (Kd.R_reads' HO1650.out).2.1)
    (case side7 => exact cr HO1653)
    (case side8 => exact (Kd.R_reads' HO1653.out).2.1)
    (case side9 => exact cr HO1656)
    (case side10 => exact (Kd.R_reads' HO1656.out).2.1)
    (case side11 => exact cr HO1669)
    (case side12 => exact (Kd.R_reads' HO1669.out).2.1)
    (case side13 => exact cr HO1675)
    (case side14 => exact (Kd.R_reads' HO1675.out).2.1)
    (case side15 => exact cr HO1679)
    (case side16 => exact (Kd.R_reads' HO1679.out).2.1)
    (case side17 => exact cr HO1682)
    (case side18 => exact (Kd.R_reads' HO1682.out).2.1)
    (case side19 => exact cr HO1685)
    (case side20 => exact (Kd.R_reads' HO1685.out).2.1)
    rintro e w70 ⟨rfl, hb⟩
    refine ⟨_, rfl, ?_⟩
    replace HO1613 := kr HO1613 hb
    replace HO1619 := kr HO1619 hb
    replace HO1623 := kr HO1623 hb
    replace HO1626 := kr HO1626 hb
    replace HO1629 := kr HO1629 hb
    replace HO1633 := kr HO1633 hb
    replace HO1636 := kr HO1636 hb
    replace HO1640 := kr HO1640 hb
    replace HO1646 := kr HO1646 hb
    replace HO1650 := kr HO1650 hb
    replace HO1653 := kr HO1653 hb
    replace HO1656 := kr HO1656 hb
    replace HO1661 := kr HO1661 hb
    replace HO1664 := kr HO1664 hb
    replace HO1669 := kr HO1669 hb
    replace HO1675 := kr HO1675 hb
    replace HO1679 := kr HO1679 hb
    replace HO1682 := kr HO1682 hb
    replace HO1685 := kr HO1685 hb
    replace BK1607 := kb BK1607 hb
    replace BK1608 := kb BK1608 hb
    replace BK1657 := kb BK1657 hb
    replace BK1665 := kb BK1665 hb
    replace HB := hs_ HB hb
    refine hK.out _ _ ⟨rb9 BK1657, rb9 BK1607⟩ (fun hHeld => ?_)
    clear hK K
    refine no_ ?_
    refine pure_ (i := 4) (N := some 43) (v := ?_) (a' := ?_) #[true, true, true, true, true] rfl rfl (by kernel_rfl) (fun _ _ _ h => h) (Or.inl ⟨by rfl, ?_⟩) ?_ ?_
    rotate_left
    ·intro w'
     go_simp
     with_reducible rfl
    rotate_left
    ·simp only [Act.put, List.setIfInBounds_toArray, List.set_cons_zero, List.set_cons_succ, i64_w, i32_w]
     rfl
    refine done_ (by kernel_rfl) ?_
    go_upto_if 43 with (fail)
    have H := HC62.out
    clear HC62
    by_cases c71 : t1686 = true
    ·subst c71
     rw [if_pos rfl] at H
     replace H := Option.bind_eq_some_iff.mp H
     obtain ⟨⟨t1687, t1688, t1691⟩, A720, H⟩ := H
     try dsimp only at H
     have A72 := dk A720
     clear A720
     replace H := Option.bind_eq_some_iff.mp H
     obtain ⟨t1694, A730, H⟩ := H
     try dsimp only at H
     have A73 := dk A730
     clear A730
     have HC74 := dk H
     clear H
     try go_wp2
     replace HO1613 := dk (Kd.R_drew HO1613.out)
     replace HO1619 := dk (Kd.R_drew HO1619.out)
     replace HO1623 := dk (Kd.R_drew HO1623.out)
     replace HO1626 := dk (Kd.R_drew HO1626.out)
     replace HO1629 := dk (Kd.R_drew HO1629.out)
     replace HO1633 := dk (Kd.R_drew HO1633.out)
     replace HO1636 := dk (Kd.R_drew HO1636.out)
     replace HO1640 := dk (Kd.R_drew HO1640.out)
     replace HO1646 := dk (Kd.R_drew HO1646.out)
     replace HO1650 := dk (Kd.R_drew HO1650.out)
     replace HO1653 := dk (Kd.R_drew HO1653.out)
     replace HO1656 := dk (Kd.R_drew HO1656.out)
     replace HO1661 := dk (Kd.R_drew HO1661.out)
     replace HO1664 := dk (Kd.R_drew HO1664.out)
     replace HO1669 := dk (Kd.R_drew HO1669.out)
     replace HO1675 := dk (Kd.R_drew HO1675.out)
     replace HO1679 := dk (Kd.R_drew HO1679.out)
     replace HO1682 := dk (Kd.R_drew HO1682.out)
     replace HO1685 := dk (Kd.R_drew HO1685.out)
     replace BK1607 := dk (blk_drew BK1607.out)
     replace BK1608 := dk (blk_drew BK1608.out)
     replace BK1657 := dk (blk_drew BK1657.out)
     replace BK1665 := dk (blk_drew BK1665.out)
     replace HB := dk (below_drew1 HB.out)
     refine start_ (n := 5) (S := fun w' => hd3 w' gb1665 (.bool t1658) (.slice Ao55 t1659.length co55) (.slice Ao56 t1662.length co56) ∧ hd3 w' gb1608 (.bool a2_0) (.slice A2_1 l2_1.length c2_1) (.slice A2_2 l2_2.length c2_2)) (ds := []) #[false, false, false, false, false] (by kernel_rfl) rfl rfl ⟨rb3 BK1665, rb3 BK1608⟩ (fun hHeld => ?_)
     generalize w70.drew = w75 at HO1613 HO1619 HO1623 HO1626 HO1629 HO1633 HO1636 HO1640 HO1646 HO1650 HO1653 HO1656 HO1661 HO1664 HO1669 HO1675 HO1679 HO1682 HO1685 BK1607 BK1608 BK1657 BK1665 HB hHeld ⊢
     refine tk_ 0 44 ?_
     refine tk_ 1 45 ?_
     refine on_ 2 (some 46) (fun K hK => ?_)
     refine ga_ Try.func33 #[.agg #[.bool a2_0, .slice A2_1 l2_1.length c2_1, .slice A2_2 l2_2.length c2_2]] ?_
     with_reducible refine (laws_toVerdict.calls k a2_0 _ _ l2_1 _ _ l2_2 t1687 t1688 t1691 _ ?side1 ?side2 ?side3 ?side4 A72.out).mono ?_
     (case side1 => exact cc HR2_1 HB)
     (case side2 => exact HC2_1.out)
     (case side3 => exact cc HR2_2 HB)
     (case side4 => exact HC2_2.out)
     rintro e w76 ⟨v1689, v1692, rfl, ho0, ho1, hb⟩
     refine ⟨_, rfl, ?_⟩
     replace HO1613 := kr HO1613 hb
     replace HO1623 := kr HO1623 hb
     replace HO1640 := kr HO1640 hb
     replace HO1650 := kr HO1650 hb
     replace HO1669 := kr HO1669 hb
     replace HO1679 := kr HO1679 hb
     have HO1690 := dk (Kd.R_lower (Kd.R_new' (Kd.R_new' (Kd.R_new' (Kd.R_new' (Kd.R_new' (Kd.R_new' (Kd.R_new' (Kd.R_new' (Kd.R_new' (Kd.R_new' (Kd.R_new' (Kd.R_new' (Kd.R_new' ho0 (rt HO1619)) (rt HO1626)) (rt HO1629)) (rt HO1633)) (rt HO1636)) (rt HO1646)) (rt HO1653)) (rt HO1656)) (rt HO1661)) (rt HO1664)) (rt HO1675)) (rt HO1682)) (rt HO1685)) (below_size (bb HB)))
     have HO1693 := dk (Kd.R_lower (Kd.R_new' (Kd.R_new' (Kd.R_new' (Kd.R_new' (Kd.R_new' (Kd.R_new' (Kd.R_new' (Kd.R_new' (Kd.R_new' (Kd.R_new' (Kd.R_new' (Kd.R_new' (Kd.R_new' ho1 (rt HO1619)) (rt HO1626)) (rt HO1629)) (rt HO1633)) (rt HO1636)) (rt HO1646)) (rt HO1653)) (rt HO1656)) (rt HO1661)) (rt HO1664)) (rt HO1675)) (rt HO1682)) (rt HO1685)) (below_size (bb HB)))
     replace HO1619 := dk (Kd.R_mono (Kd.R_told (Kd.R_told (Kd.R_old (rr HO1619) hb) (Kd.R_base ho0)) (Kd.R_base ho1)) (fun _ h_ => h_.1))
     replace HO1626 := dk (Kd.R_mono (Kd.R_told (Kd.R_told (Kd.R_old (rr HO1626) hb) (Kd.R_base ho0)) (Kd.R_base ho1)) (fun _ h_ => h_.1))
     replace HO1629 := dk (Kd.R_mono (Kd.R_told (Kd.R_told (Kd.R_old (rr HO1629) hb) (Kd.R_base ho0)) (Kd.R_base ho1)) (fun _ h_ => h_.1))
     replace HO1633 := dk (Kd.R_mono (Kd.R_told (Kd.R_told (Kd.R_old (rr HO1633) hb) (Kd.R_base ho0)) (Kd.R_base ho1)) (fun _ h_ => h_.1))
     replace HO1636 := dk (Kd.R_mono (Kd.R_told (Kd.R_told (Kd.R_old (rr HO1636) hb) (Kd.R_base ho0)) (Kd.R_base ho1)) (fun _ h_ => h_.1))
     replace HO1646 := dk (Kd.R_mono (Kd.R_told (Kd.R_told (Kd.R_old (rr HO1646) hb) (Kd.R_base ho0)) (Kd.R_base ho1)) (fun _ h_ => h_.1))
     replace HO1653 := dk (Kd.R_mono (Kd.R_told (Kd.R_told (Kd.R_old (rr HO1653) hb) (Kd.R_base ho0)) (Kd.R_base ho1)) (fun _ h_ => h_.1))
     replace HO1656 := dk (Kd.R_mono (Kd.R_told (Kd.R_told (Kd.R_old (rr HO1656) hb) (Kd.R_base ho0)) (Kd.R_base ho1)) (fun _ h_ => h_.1))
     replace HO1661 := dk (Kd.R_mono (Kd.R_told (Kd.R_told (Kd.R_old (rr HO1661) hb) (Kd.R_base ho0)) (Kd.R_base ho1)) (fun _ h_ => h_.1))
     replace HO1664 := dk (Kd.R_mono (Kd.R_told (Kd.R_told (Kd.R_old (rr HO1664) hb) (Kd.R_base ho0)) (Kd.R_base ho1)) (fun _ h_ => h_.1))
     replace HO1675 := dk (Kd.R_mono (Kd.R_told (Kd.R_told (Kd.R_old (rr HO1675) hb) (Kd.R_base ho0)) (Kd.R_base ho1)) (fun _ h_ => h_.1))
     replace HO1682 := dk (Kd.R_mono (Kd.R_told (Kd.R_told (Kd.R_old (rr HO1682) hb) (Kd.R_base ho0)) (Kd.R_base ho1)) (fun _ h_ => h_.1))
     replace HO1685 := dk (Kd.R_mono (Kd.R_told (Kd.R_told (Kd.R_old (rr HO1685) hb) (Kd.R_base ho0)) (Kd.R_base ho1)) (fun _ h_ => h_.1))
     replace BK1607 := kb BK1607 hb
     replace BK1608 := kb BK1608 hb
     replace BK1657 := kb BK1657 hb
     replace BK1665 := kb BK1665 hb
     replace HB := hs_ HB hb
     obtain ⟨Ao77, co77, eo77⟩ := Kd.R_slice HO1690.out
     (first | subst eo77 | (injection eo77 with f1_ f2_ f3_; have f4_ := f1_.symm; have f5_ := f3_.symm; clear f1_ f2_ f3_; subst f4_; subst f5_))
     obtain ⟨Ao78, co78, eo78⟩ := Kd.R_slice HO1693.out
     (first | subst eo78 | (injection eo78 with f1_ f2_ f3_; have f4_ := f1_.symm; have f5_ := f3_.symm; clear f1_ f2_ f3_; subst f4_; subst f5_))
     refine hK.out _ _ ⟨rb3 BK1665, rb3 BK1608⟩ (fun hHeld => ?_)
     clear hK K
     refine no_ ?_
     refine on_ 3 (some 47) (fun K hK => ?_)
     refine ga_ Try.func35 #[.agg #[.bool t1658, .slice Ao55 t1659.length co55, .slice Ao56 t1662.length co56], .agg #[.bool t1687, .slice Ao77 t1688.length co77, .slice Ao78 t1691.length co78]] ?_
     with_reducible refine (laws_eqVerdict.calls k t1658 _ _ t1659 _ _ t1662 t1687 _ _ t1688 _ _ t1691 t1694 _ ?side1 ?side2 ?side3 ?side4 ?side5 ?side6 ?side7 ?side8 A73.out).mono ?_
     (case side1 => exact cr HO1661)
     (case side2 => exact (Kd.R_reads' HO1661.out).2.1)
     (case side3 => exact cr HO1664)
     (case side4 => exact (Kd.R_reads' HO1664.out).2.1)
     (case side5 => exact cr HO1690)
     (case side6 => exact (Kd.R_reads' HO1690.out).2.1)
     (case side7 => exact cr HO1693)
     (case side8 => exact (Kd.R_reads' HO1693.out).2.1)
     rintro e w79 ⟨rfl, hb⟩
     refine ⟨_, rfl, ?_⟩
     replace HO1613 := kr HO1613 hb
     replace HO1619 := kr HO1619 hb
     replace HO1623 := kr HO1623 hb
     replace HO1626 := kr HO1626 hb
     replace HO1629 := kr HO1629 hb
     replace HO1633 := kr HO1633 hb
     replace HO1636 := kr HO1636 hb
     replace HO1640 := kr HO1640 hb
     replace HO1646 := kr HO1646 hb
     replace HO1650 := kr HO1650 hb
     replace HO1653 := kr HO1653 hb
     replace HO1656 := kr HO1656 hb
     replace HO1661 := kr HO1661 hb
     replace HO1664 := kr HO1664 hb
     replace HO1669 := kr HO1669 hb
     replace HO1675 := kr HO1675 hb
     replace HO1679 := kr HO1679 hb
     replace HO1682 := kr HO1682 hb
     replace HO1685 := kr HO1685 hb
     replace HO1690 := kr HO1690 hb
     replace HO1693 := kr HO1693 hb
     replace BK1607 := kb BK1607 hb
     replace BK1608 := kb BK1608 hb
     replace BK1657 := kb BK1657 hb
     replace BK1665 := kb BK1665 hb
     replace HB := hs_ HB hb
     refine hK.out _ _ ⟨rb3 BK1665, rb3 BK1608⟩ (fun hHeld => ?_)
     clear hK K
     refine no_ ?_
     refine pure_ (i := 4) (N := some 48) (v := ?_) (a' := ?_) #[true, true, true, true, true] rfl rfl (by kernel_rfl) (fun _ _ _ h => h) (Or.inl ⟨by rfl, ?_⟩) ?_ ?_
     rotate_left
     ·intro w'
      go_simp
      with_reducible rfl
     rotate_left
     ·simp only [Act.put, List.setIfInBounds_toArray, List.set_cons_zero, List.set_cons_succ, i64_w, i32_w]
      rfl
     refine done_ (by kernel_rfl) ?_
     go_upto_if 48 with (fail)
     have H := HC74.out
     clear HC74
     by_cases c80 : t1694 = true
     ·subst c80
      rw [if_pos rfl] at H
      obtain rfl := Option.some.inj H
      go_wp2
      go_ret
      exact ⟨ee, bb HB⟩
     ·replace c80 := Bool.eq_false_iff.mpr c80
      subst c80
      rw [if_neg (show ¬ (false = true) by decide)] at H
      obtain rfl := Option.some.inj H
      go_wp2
      go_ret
      exact ⟨ee, bb HB⟩
    ·replace c71 := Bool.eq_false_iff.mpr c71
     subst c71
     rw [if_neg (show ¬ (false = true) by decide)] at H
     obtain rfl := Option.some.inj H
     go_wp2
     go_ret
     exact ⟨ee, bb HB⟩
end Go.Proofs.Ythfefanapneocaa.Q
namespace Go.Proofs.Ythfefanapneocaa.Opens
open Go.ChangeShapes Go.WideShapes Go.ChangeAt Go.RowKit Go.Proofs.Ythfefanapneocaa.Q Go.Proofs.YthfefanapneocaaW.PrintWords Go.Proofs.YthfefanapneocaaW.PrintLast
section
variable {H : Type} (enc : TypeId × Value → H) (P : Program) (W : World)
def Opens {α : Type} (t : TypeId) (d : Kd α) (ok : α → Prop) : Prop := ∀ (fuel : Nat) (cs : List Value) (x : DataW H × List MemPlace), DataW.trod enc P W 0 (fun _ => true) true fuel t cs = some x → ∃ a, d.K W a cs ∧ ok a
def OpensFs {α : Type} (off : Nat) (fs : List Field) (d : Kd α) (ok : α → Prop) : Prop :=
  ∀ (n : Nat) (cs : List Value) (xs : List (DataW H × List MemPlace)), (∀ (i : Nat) (f : Field), fs[i]? = some f → DataW.trod enc P W 0 (fun _ => true) true n f.type ((cs.drop f.offset).take (P.cellsOf f.type)) = xs[i]?) → xs.length = fs.length → cs.length = off + d.sz → ∃ a, d.K W a (cs.drop off) ∧ ok a
variable {enc P W}
variable {α β : Type} {t : TypeId} {d : Kd α} {d2 : Kd β} {ok : α → Prop} {ok2 : β → Prop}
theorem int {k : IntKind} (ht : P.underlying t = some (.int k)) : Opens enc P W t (Kd.int k) (fun n => (Lit.int k n).wf = true) := fun fuel cs x h => by
  obtain ⟨n, rfl, _, hw⟩ := DataW.trod_int ht h
  exact ⟨n, rfl, hw⟩
theorem bool (ht : P.underlying t = some .bool) : Opens enc P W t Kd.bool (fun _ => True) := fun fuel cs x h => by
  obtain ⟨b, rfl, _⟩ := DataW.trod_bool ht h
  exact ⟨b, rfl, trivial⟩
theorem string (ht : P.underlying t = some .string) : Opens enc P W t Kd.string (fun s => s.size ≤ maxLen) := fun fuel cs x h => by
  obtain ⟨s, rfl, _, hs⟩ := DataW.trod_string ht h
  exact ⟨s, rfl, hs⟩
theorem cells_get {w : World} {base : Nat} {a : Addr} {n : Nat} {cs : List Value} (h : w.cells? base a n = some cs) : cs.length = n ∧ ∀ i u, cs[i]? = some u → w.cell? (a.add i) = some u := by
  unfold World.cells? at h
  split at h
  · have hl := mapM_some_length h
    refine ⟨by simpa using hl, fun i u hi => ?_⟩
    have hlt : i < n := by have := (List.getElem?_eq_some_iff.mp hi).1; simp at hl; omega
    have := mapM_some_get h i i (by simp [hlt])
    rw [this, hi]
  · cases h
theorem add_add (a : Addr) (i j : Nat) : (a.add i).add j = a.add (i + j) := by
  unfold Addr.add
  by_cases hi : i = 0
  · subst hi; simp
  · by_cases hj : j = 0
    · subst hj; simp [hi]
    · simp [hi, hj]; omega
theorem slice {e : TypeId} (ht : P.underlying t = some (.slice e)) (he : Opens enc P W e d ok) (hc : P.cellsOf e = d.sz) (q : Nat) : Opens enc P W t (Kd.slice q d) (fun l => l.length ≤ maxLen ∧ ∀ x ∈ l, ok x) := fun fuel cs x h => by
  rcases DataW.trod_slice ht h with ⟨rfl, _⟩ | ⟨a, len, cap, elems, rest, n, _, rfl, _, _, hl, hm, hlen, hel, _⟩
  · exact ⟨[], ⟨none, 0, rfl, Nat.le_refl _, rfl, Nat.zero_le _, fun h => absurd h (Nat.not_lt_zero _)⟩, Nat.zero_le _, fun x hx => by cases hx⟩
  · have each : ∀ i : Fin len, ∃ p : α, ok p ∧ ∃ c, c.length = d.sz ∧ d.K W p c ∧ ∀ j u, c[j]? = some u → W.cell? (a.add (i.1 * d.sz + j)) = some u := by
      intro i
      have h1 := hel i.1 i.2
      obtain ⟨y, hy⟩ : ∃ y, elems[i.1]? = some y := ⟨elems[i.1]'(by have := i.2; omega), List.getElem?_eq_getElem (by have := i.2; omega)⟩
      rw [hy, Option.bind_eq_some_iff] at h1
      obtain ⟨c, hcs, htr⟩ := h1
      rw [hc] at hcs
      obtain ⟨p, hK, hok⟩ := he _ _ _ htr
      obtain ⟨h2, h3⟩ := cells_get hcs
      exact ⟨p, hok, c, h2, hK, fun j u hj => by rw [← add_add]; exact h3 j u hj⟩
    let f : Fin len → α := fun i => (each i).choose
    have hf : ∀ i : Fin len, ok (f i) ∧ ∃ c, c.length = d.sz ∧ d.K W (f i) c ∧ ∀ j u, c[j]? = some u → W.cell? (a.add (i.1 * d.sz + j)) = some u := fun i => (each i).choose_spec
    have hm' : len ≤ maxLen := Nat.le_trans hl hm
    refine ⟨List.ofFn f, ⟨some a, cap, by simp, by simpa using hl, by simp, by simpa [maxLen] using hm', fun _ => ⟨a, rfl, fun j p hj => ?_⟩⟩, by simpa using hm', fun x hx => ?_⟩
    · have hlt : j < len := by have := (List.getElem?_eq_some_iff.mp hj).1; simpa using this
      have : p = f ⟨j, hlt⟩ := by rw [List.getElem?_eq_getElem (by simpa using hlt)] at hj; simpa using hj.symm
      subst this
      obtain ⟨_, c, h1, h2, h3⟩ := hf ⟨j, hlt⟩
      exact ⟨c, h1, h2, h3⟩
    · obtain ⟨i, hi, rfl⟩ := List.mem_iff_getElem.mp hx
      simp only [List.getElem_ofFn]
      exact (hf _).1
theorem one {f : Field} (off : Nat) (ho : f.offset = off) (he : Opens enc P W f.type d ok) (hc : P.cellsOf f.type = d.sz) : OpensFs enc P W off [f] d ok := fun n cs xs h hx hl => by
  have h0 := h 0 f rfl
  have hz : xs.length = 1 := hx
  obtain ⟨y, rfl⟩ := List.length_eq_one_iff.mp hz
  rw [ho, hc, List.take_of_length_le (by simp; omega)] at h0
  exact he _ _ _ h0
theorem cons {f : Field} {fs : List Field} (off off2 : Nat) (ho : f.offset = off) (he : Opens enc P W f.type d ok) (hc : P.cellsOf f.type = d.sz) (h2 : off + d.sz = off2) (hr : OpensFs enc P W off2 fs d2 ok2) :
    OpensFs enc P W off (f :: fs) (Kd.pair d d2) (fun x => ok x.1 ∧ ok2 x.2) := fun n cs xs h hx hl => by
  cases xs with
  | nil => simp at hx
  | cons y ys =>
    have h0 := h 0 f rfl
    rw [ho, hc] at h0
    obtain ⟨p, hp, hok⟩ := he _ _ _ h0
    have hl' : cs.length = off + (d.sz + d2.sz) := hl
    obtain ⟨q, hq, hok2⟩ := hr n cs ys (fun i g hi => h (i + 1) g hi) (by simpa using hx) (by omega)
    refine ⟨(p, q), ⟨_, _, ?_, hp, hq⟩, hok, hok2⟩
    rw [← h2, ← List.drop_drop, List.take_append_drop]
theorem struct {fs : Array Field} (ht : P.underlying t = some (.struct fs)) (hc : P.cellsOf t = d.sz) (h : OpensFs enc P W 0 fs.toList d ok) : Opens enc P W t d ok := fun fuel cs x hx => by
  obtain ⟨xs, n, _, _, hl, hxs, hf⟩ := DataW.trod_struct ht hx
  have := h n cs xs (fun i f hi => hf i f (by simpa using hi)) (by simpa using hxs) (by omega)
  simpa using this
theorem iso {f : β → α} (g : α → β) (hg : ∀ x, f (g x) = x) (h : Opens enc P W t d ok) : Opens enc P W t (Kd.iso d f) (fun y => ok (f y)) := fun fuel cs x hx => by
  obtain ⟨p, hp, hok⟩ := h _ _ _ hx
  exact ⟨g p, by show d.K W (f (g p)) cs; rw [hg]; exact hp, by show ok (f (g p)); rw [hg]; exact hok⟩
end
theorem trod_struct_val {H : Type} {enc : TypeId × Value → H} {P : Program} {W : World} {r : Reach} {b0 : Nat} {t : TypeId} {v : Value} {fs : Array Field} {α : Type} {d : Kd α} {ok : α → Prop} {dd : DataW H} {ps : List MemPlace} (ht : P.underlying t = some (.struct fs)) (hval : Value.okWide P W r b0 t v) (hd : DataW.Trod enc P W 0 (fun _ => true) true t v dd ps) (h : Opens enc P W t d ok) :
    ∃ cs a, v = .agg cs ∧ d.K W a cs.toList ∧ ok a := by
  obtain ⟨cs, rfl, _⟩ := okWide_struct ht hval
  obtain ⟨fuel, hf⟩ := hd
  obtain ⟨a, hK, hok⟩ := h _ _ _ hf
  exact ⟨cs, a, rfl, by simpa [Value.cells] using hK, hok⟩
end Go.Proofs.Ythfefanapneocaa.Opens
namespace Go.Proofs.Ythfefanapneocaa.Q
open Go.RowKit Go.Proofs.YthfefanapneocaaW.PrintWords Go.Proofs.YthfefanapneocaaW.PrintLast Go.Proofs.YthfefanapneocaaW.PrintMore
attribute [local go_sem] max2_int min2_int max_two min_two max_three min_three max_four min_four
set_option linter.unusedVariables false
set_option linter.unusedSimpArgs false
def laws_markIntS.l0 : Nat → List Int → Int → Int → Option (Int × List Int)
 | 0, _, _, _ => none
 | k + 1, x0, x1, x5 => if x5 < (x0.length : Int) then (if 0 ≤ x5 then (laws_markIntS.l0 k (x0.set (x5 : Int).toNat x1) (wrap64 (x1 + 1)) (wrap64 (x5 + 1))) else (none)) else (some (x1, x0))
def laws_markIntS.f (k : Nat) (l0 : List Int) (a1 : Int) : Option (Int × List Int) := laws_markIntS.l0 k l0 a1 0
def laws_markRules.f (k : Nat) (a0_0 : Int) (a0_1 : Int) (a0_2 : Int) (l0_3 : List Int) (a0_4 : Bool) (a1 : Int) : Option (Int × List Int) := (laws_markIntS.f k l0_3 a1).bind fun bt455 => (some (bt455.1, bt455.2))
def laws_markText.l0 : Nat → Int → ByteArray → Option (ByteArray)
 | 0, _, _ => none
 | k + 1, x0, x3 => if x0 > 0 then ((some (([(wrap64 (48 + (Int.tmod x0 10))) % 256] : List Int) : List Int)).bind fun y447 => (if (strOfNums y447).size + x3.size ≤ 9223372036854775807 then (laws_markText.l0 k (wrap64 (Int.tdiv x0 10)) ((strOfNums y447) ++ x3)) else (none))) else (if 1 + x3.size ≤ 9223372036854775807 then (some ((⟨#[109]⟩ : ByteArray) ++ x3)) else (none))
def laws_markText.f (k : Nat) (a0 : Int) : Option (ByteArray) := if a0 ≤ 0 then (some (⟨#[109, 48]⟩ : ByteArray)) else (laws_markText.l0 k a0 (⟨#[]⟩ : ByteArray))
def laws_markTeamS.l0 : Nat → List (S139) → Int → Int → Option (Int × (List (S139)))
 | 0, _, _, _ => none
 | k + 1, x0, x1, x5 => if x5 < (x0.length : Int) then ((laws_markText.f k x1).bind fun t450 => (if 0 ≤ x5 then ((some (x0.set (x5 : Int).toNat (⟨t450, (rd_T139 x0 x5).f1, (rd_T139 x0 x5).f2⟩ : S139) : List (S139))).bind fun y451 => ((some (y451.set (x5 : Int).toNat (⟨(rd_T139 y451 x5).f0, wrap64 (x1 + 1), (rd_T139 y451 x5).f2⟩ : S139) : List (S139))).bind fun y452 => (laws_markTeamS.l0 k (y452.set (x5 : Int).toNat (⟨(rd_T139 y452 x5).f0, (rd_T139 y452 x5).f1, wrap64 ((wrap64 (x1 + 1)) + 1)⟩ : S139)) (wrap64 ((wrap64 ((wrap64 (x1 + 1)) + 1)) + 1)) (wrap64 (x5 + 1))))) else (none))) else (some (x1, x0))
def laws_markTeamS.f (k : Nat) (l0 : List (S139)) (a1 : Int) : Option (Int × (List (S139))) := laws_markTeamS.l0 k l0 a1 0
def laws_markGameS.l0 : Nat → List (S95) → Int → Int → Option (Int × (List (S95)))
 | 0, _, _, _ => none
 | k + 1, x0, x1, x5 => if x5 < (x0.length : Int) then (if 0 ≤ x5 then ((some (x0.set (x5 : Int).toNat (⟨x1, (rd_T95 x0 x5).f1, (rd_T95 x0 x5).f2, (rd_T95 x0 x5).f3, (rd_T95 x0 x5).f4⟩ : S95) : List (S95))).bind fun y457 => ((some (y457.set (x5 : Int).toNat (⟨(rd_T95 y457 x5).f0, wrap64 (x1 + 1), (rd_T95 y457 x5).f2, (rd_T95 y457 x5).f3, (rd_T95 y457 x5).f4⟩ : S95) : List (S95))).bind fun y458 => ((some (y458.set (x5 : Int).toNat (⟨(rd_T95 y458 x5).f0, (rd_T95 y458 x5).f1, wrap64 ((wrap64 (x1 + 1)) + 1), (rd_T95 y458 x5).f3, (rd_T95 y458 x5).f4⟩ : S95) : List (S95))).bind fun y459 => ((some (y459.set (x5 : Int).toNat (⟨(rd_T95 y459 x5).f0, (rd_T95 y459 x5).f1, (rd_T95 y459 x5).f2, wrap64 ((wrap64 ((wrap64 (x1 + 1)) + 1)) + 1), (rd_T95 y459 x5).f4⟩ : S95) : List (S95))).bind fun y460 => (laws_markGameS.l0 k (y460.set (x5 : Int).toNat (⟨(rd_T95 y460 x5).f0, (rd_T95 y460 x5).f1, (rd_T95 y460 x5).f2, (rd_T95 y460 x5).f3, wrap64 ((wrap64 ((wrap64 ((wrap64 (x1 + 1)) + 1)) + 1)) + 1)⟩ : S95)) (wrap64 ((wrap64 ((wrap64 ((wrap64 ((wrap64 (x1 + 1)) + 1)) + 1)) + 1)) + 1)) (wrap64 (x5 + 1))))))) else (none)) else (some (x1, x0))
def laws_markGameS.f (k : Nat) (l0 : List (S95)) (a1 : Int) : Option (Int × (List (S95))) := laws_markGameS.l0 k l0 a1 0
def laws_markBook.f (k : Nat) (l0_0 : List (S139)) (a0_1 : Int) (a0_2 : Int) (a0_3 : Int) (l0_4 : List Int) (a0_5 : Bool) (l0_6 : List (S95)) (l0_7 : List Int) (l0_8 : List Int) (a1 : Int) : Option (Int × (List (S139)) × List Int × (List (S95)) × List Int × List Int) := (laws_markTeamS.f k l0_0 a1).bind fun bt463 => ((laws_markRules.f k a0_1 a0_2 a0_3 l0_4 a0_5 bt463.1).bind fun bt465 => ((laws_markGameS.f k l0_6 bt465.1).bind fun bt467 => ((laws_markIntS.f k l0_7 bt467.1).bind fun bt469 => ((laws_markIntS.f k l0_8 bt469.1).bind fun bt471 => (some (bt471.1, bt463.2, bt465.2, bt467.2, bt469.2, bt471.2))))))
def laws_heldIntS.l0 : Nat → List Int → Int → Int → Option (Int)
 | 0, _, _, _ => none
 | k + 1, x0, x1, x5 => if x5 < (x0.length : Int) then (if 0 ≤ x5 then (if (rd x0 x5) = x1 then (laws_heldIntS.l0 k x0 (wrap64 (x1 + 1)) (wrap64 (x5 + 1))) else (some (-1))) else (none)) else (some x1)
def laws_heldIntS.f (k : Nat) (l0 : List Int) (a1 : Int) : Option (Int) := laws_heldIntS.l0 k l0 a1 0
def laws_heldRules.f (k : Nat) (a0_0 : Int) (a0_1 : Int) (a0_2 : Int) (l0_3 : List Int) (a0_4 : Bool) (a1 : Int) : Option (Int) := (laws_heldIntS.f k l0_3 a1).bind fun t482 => (if t482 < 0 then (some (-1)) else (some t482))
def laws_heldTeamS.l0 : Nat → List (S139) → Int → Int → Option (Int)
 | 0, _, _, _ => none
 | k + 1, x0, x1, x5 => if x5 < (x0.length : Int) then (if 0 ≤ x5 then ((laws_markText.f k x1).bind fun t478 => (if ((rd_T139 x0 x5).f0).toList = t478.toList then (if ((rd_T139 x0 x5).f1) = (wrap64 (x1 + 1)) then (if ((rd_T139 x0 x5).f2) = (wrap64 ((wrap64 (x1 + 1)) + 1)) then (laws_heldTeamS.l0 k x0 (wrap64 ((wrap64 ((wrap64 (x1 + 1)) + 1)) + 1)) (wrap64 (x5 + 1))) else (some (-1))) else (some (-1))) else (some (-1)))) else (none)) else (some x1)
def laws_heldTeamS.f (k : Nat) (l0 : List (S139)) (a1 : Int) : Option (Int) := laws_heldTeamS.l0 k l0 a1 0
def laws_heldTeamS.T4 : Bool × List (List Nat × List Nat) := (true, [([], []), ([], []), ([0, 1], [0, 1]), ([2], [2]), ([3], [3]), ([], []), ([5], [5]), ([4, 6], [4, 6])])
def laws_heldTeamS.B4 : List Nat := [0, 0, 3, 7, 15, 0, 32, 127]
def laws_heldGameS.l0 : Nat → List (S95) → Int → Int → Option (Int)
 | 0, _, _, _ => none
 | k + 1, x0, x1, x5 => if x5 < (x0.length : Int) then (if 0 ≤ x5 then (if ((rd_T95 x0 x5).f0) = x1 then (if ((rd_T95 x0 x5).f1) = (wrap64 (x1 + 1)) then (if ((rd_T95 x0 x5).f2) = (wrap64 ((wrap64 (x1 + 1)) + 1)) then (if ((rd_T95 x0 x5).f3) = (wrap64 ((wrap64 ((wrap64 (x1 + 1)) + 1)) + 1)) then (if ((rd_T95 x0 x5).f4) = (wrap64 ((wrap64 ((wrap64 ((wrap64 (x1 + 1)) + 1)) + 1)) + 1)) then (laws_heldGameS.l0 k x0 (wrap64 ((wrap64 ((wrap64 ((wrap64 ((wrap64 (x1 + 1)) + 1)) + 1)) + 1)) + 1)) (wrap64 (x5 + 1))) else (some (-1))) else (some (-1))) else (some (-1))) else (some (-1))) else (some (-1))) else (none)) else (some x1)
def laws_heldGameS.f (k : Nat) (l0 : List (S95)) (a1 : Int) : Option (Int) := laws_heldGameS.l0 k l0 a1 0
def laws_heldBook.f (k : Nat) (l0_0 : List (S139)) (a0_1 : Int) (a0_2 : Int) (a0_3 : Int) (l0_4 : List Int) (a0_5 : Bool) (l0_6 : List (S95)) (l0_7 : List Int) (l0_8 : List Int) (a1 : Int) : Option (Int) := (laws_heldTeamS.f k l0_0 a1).bind fun t489 => (if t489 < 0 then (some (-1)) else ((laws_heldRules.f k a0_1 a0_2 a0_3 l0_4 a0_5 t489).bind fun t490 => (if t490 < 0 then (some (-1)) else ((laws_heldGameS.f k l0_6 t490).bind fun t491 => (if t491 < 0 then (some (-1)) else ((laws_heldIntS.f k l0_7 t491).bind fun t492 => (if t492 < 0 then (some (-1)) else ((laws_heldIntS.f k l0_8 t492).bind fun t493 => (if t493 < 0 then (some (-1)) else (some t493))))))))))
end Go.Proofs.Ythfefanapneocaa.Q
namespace Go.Proofs.Ythfefanapneocaa.Q
open Go.RowKit Go.Proofs.YthfefanapneocaaW.PrintWords Go.Proofs.YthfefanapneocaaW.PrintLast Go.Proofs.YthfefanapneocaaW.PrintMore
abbrev Team := S139
abbrev Game := S95
theorem wrap_id (x : Int) (h0 : -9223372036854775808 ≤ x) (h1 : x ≤ 9223372036854775807) : wrap64 x = x := by unfold wrap64; omega
theorem Ev.down {β : Type} (n : Nat) (F : Nat → Nat → Option β) (V : Nat → β) (hend : Ev (F n) (V n)) (hstep : ∀ i, i < n → Ev (F (i + 1)) (V (i + 1)) → Ev (F i) (V i)) : Ev (F 0) (V 0) := by
  have key : ∀ d i, i + d = n → Ev (F i) (V i) := by
    intro d
    induction d with
    | zero => intro i hi; obtain rfl : i = n := by omega
              exact hend
    | succ d ih => intro i hi; exact hstep i (by omega) (ih (i + 1) (by omega))
  exact key n 0 (by omega)
theorem Ev.eq {β : Type} {g : Nat → Option β} {r q : β} (h : Ev g r) (e : r = q) : Ev g q := e ▸ h
theorem Ev.loop {β : Type} {g : Nat → Option β} {r : β} (n : Nat) (F : Nat → Nat → Option β) (V : Nat → β) (hg : ∀ k, g k = F 0 k) (hr : V 0 = r) (hend : Ev (F n) (V n)) (hstep : ∀ i, i < n → Ev (F (i + 1)) (V (i + 1)) → Ev (F i) (V i)) : Ev g r :=
  Ev.eq (Ev.congr hg (Ev.down n F V hend hstep)) hr
theorem Ev.from {β : Type} {g : Nat → Option β} {r : β} (K : Nat) (h : ∀ k, K < k → g k = some r) : Ev g r := ⟨K + 1, fun k hk => h k (by omega)⟩
theorem Ev.val {β : Type} {g : Nat → Option β} {r : β} (h : ∀ k, g k = some r) : Ev g r := ⟨0, fun k _ => h k⟩
theorem rd_eq (l : List Int) (i : Nat) (h : i < l.length) : rd l (i : Int) = l[i] := by
  unfold rd; simp [h]
theorem rdG_eq (l : List Game) (i : Nat) (h : i < l.length) : rd_T95 l (i : Int) = l[i] := by
  unfold rd_T95; simp [h]
theorem wrap_succ (i : Nat) (h : i < 4611686018427387904) : wrap64 ((i : Int) + 1) = ((i + 1 : Nat) : Int) := by unfold wrap64; omega
def indexI (l : List Int) (x : Int) : Int := idxI (fun y => decide (x = y)) l
theorem index_eq (l : List Int) (x : Int) (hl : l.length ≤ 2305843009213693952) (k : Nat) (hk : l.length < k) : slices_Index_int_int.f k l x = some (indexI l x) := by
  have key : ∀ (d i : Nat), l.length - i = d → i ≤ l.length → ∀ k, d < k → slices_Index_int_int.l0 k l x l.length i = some (if idxI (fun y => decide (x = y)) (l.drop i) < 0 then -1 else idxI (fun y => decide (x = y)) (l.drop i) + i) := by
    intro d
    induction d with
    | zero =>
      intro i hd hi k hk
      obtain ⟨k, rfl⟩ : ∃ m, k = m + 1 := ⟨k - 1, by omega⟩
      simp only [slices_Index_int_int.l0]
      rw [if_neg (by omega), List.drop_eq_nil_of_le (by omega)]
      rfl
    | succ d ih =>
      intro i hd hi k hk
      obtain ⟨k, rfl⟩ : ∃ m, k = m + 1 := ⟨k - 1, by omega⟩
      have hlt : i < l.length := by omega
      have := ih (i + 1) (by omega) (by omega) k (by omega)
      simp only [slices_Index_int_int.l0]
      rw [if_pos (by omega), if_pos (by omega), if_pos (by omega), rd_eq l i hlt, wrap_succ i (by omega), this, List.drop_eq_getElem_cons hlt]
      simp only [idxI]
      grind
  unfold slices_Index_int_int.f indexI
  have := key l.length 0 (by omega) (by omega) k hk
  rw [List.drop_zero] at this
  have h2 := idxI_any (fun y => decide (x = y)) l
  refine Eq.trans this ?_
  congr 1
  by_cases h : idxI (fun y => decide (x = y)) l < 0
  · rw [if_pos h]
    have : ∀ l : List Int, idxI (fun y => decide (x = y)) l = -1 ∨ 0 ≤ idxI (fun y => decide (x = y)) l := by
      intro l
      induction l with
      | nil => exact .inl rfl
      | cons y l ih => simp only [idxI]; grind
    rcases this l with h3 | h3
    · exact h3.symm
    · omega
  · rw [if_neg h]; simp
def hasI (l : List Int) (x : Int) : Bool := l.any fun y => decide (x = y)
theorem contains_eq (l : List Int) (x : Int) (hl : l.length ≤ 2305843009213693952) (k : Nat) (hk : l.length < k) : slices_Contains_int_int.f k l x = some (hasI l x) := by
  unfold slices_Contains_int_int.f hasI
  rw [index_eq l x hl k hk, ← idxI_any]
  rfl
theorem isKey_eq (x : Int) : impl_isKey.f x = some (withinB x 1 8) := by unfold impl_isKey.f; rw [within_eq]; rfl
def ladderFrom : List Int → List Int → Bool
  | _, [] => true
  | pre, k :: l => withinB k 1 8 && !hasI pre k && ladderFrom (pre ++ [k]) l
def rulesOkB (win draw loss : Int) (ladder : List Int) : Bool := ladderFrom [] ladder && decide (0 ≤ loss) && decide (loss ≤ draw) && decide (draw ≤ win) && decide (win ≤ 10) && withinB ladder.length 1 8
theorem rulesOk_eq (win draw loss : Int) (l : List Int) (again : Bool) (hl : l.length ≤ 2305843009213693952) (k : Nat) (hk : 2 * l.length + 2 < k) : impl_RulesOk.f k win draw loss l again = some (rulesOkB win draw loss l) := by
  have key : ∀ (d i : Nat), l.length - i = d → i ≤ l.length → ∀ k, l.length + d + 1 < k → impl_RulesOk.l0 k l l.length i win draw loss l again = some (ladderFrom (l.take i) (l.drop i) && decide (0 ≤ loss) && decide (loss ≤ draw) && decide (draw ≤ win) && decide (win ≤ 10) && withinB l.length 1 8) := by
    intro d
    induction d with
    | zero =>
      intro i hd hi k hk
      obtain ⟨k, rfl⟩ : ∃ m, k = m + 1 := ⟨k - 1, by omega⟩
      simp only [impl_RulesOk.l0]
      rw [if_neg (by omega), List.drop_eq_nil_of_le (by omega), ladderFrom, within_eq]
      simp only [Option.bind_some]
      grind
    | succ d ih =>
      intro i hd hi k hk
      obtain ⟨k, rfl⟩ : ∃ m, k = m + 1 := ⟨k - 1, by omega⟩
      have hlt : i < l.length := by omega
      have := ih (i + 1) (by omega) (by omega) k (by omega)
      simp only [impl_RulesOk.l0]
      rw [if_pos (by omega), if_pos (by omega), if_pos (by omega), rd_eq l i hlt, wrap_succ i (by omega), this, List.drop_eq_getElem_cons hlt, isKey_eq, Int.toNat_natCast, contains_eq _ _ (by rw [List.length_take]; omega) k (by rw [List.length_take]; omega)]
      simp only [Option.bind_some, ladderFrom]
      rw [if_pos (show (i : Int) ≤ l.length by omega), List.take_succ_eq_append_getElem hlt]
      cases withinB l[i] 1 8 <;> cases hasI (l.take i) l[i] <;> simp
  unfold impl_RulesOk.f rulesOkB
  have := key l.length 0 (by omega) (by omega) k (by omega)
  simpa using this
def gameOkB (n : Int) (g : Game) : Bool := withinB n 2 8 && !decide (g.f0 = g.f1) && withinB g.f0 0 (n - 1) && withinB g.f1 0 (n - 1) && withinB g.f4 0 4 && withinB g.f2 0 (if g.f4 = 1 then 99 else 0) && withinB g.f3 0 (if g.f4 = 1 then 99 else 0)
theorem gameOk_eq (n : Int) (g : Game) (k : Nat) (hk : 0 < k) : impl_GameOk.f k n g.f0 g.f1 g.f2 g.f3 g.f4 = some (gameOkB n g) := by
  obtain ⟨k, rfl⟩ : ∃ m, k = m + 1 := ⟨k - 1, by omega⟩
  have hw : withinB n 2 8 = true → wrap64 (n - 1) = n - 1 := by
    intro h
    simp [withinB] at h
    unfold wrap64; omega
  have key : ∀ most : Int, impl_GameOk.j0 (k + 1) n most g.f0 g.f1 g.f2 g.f3 g.f4 = some (withinB n 2 8 && !decide (g.f0 = g.f1) && withinB g.f0 0 (n - 1) && withinB g.f1 0 (n - 1) && withinB g.f4 0 4 && withinB g.f2 0 most && withinB g.f3 0 most) := by
    intro most
    simp only [impl_GameOk.j0, within_eq, Option.bind_some]
    cases h : withinB n 2 8 with
    | false => simp
    | true =>
      rw [hw h]
      by_cases h1 : g.f0 = g.f1 <;> simp [h1] <;> grind
  unfold impl_GameOk.f gameOkB
  by_cases h : g.f4 = 1
  · rw [if_pos h, key, if_pos h]
  · rw [if_neg h, key, if_neg h]
def seasonFrom (n : Int) : List Game → List Game → Bool
  | _, [] => true
  | pre, g :: l => gameOkB n g && !pre.any (gameIs g.f0 g.f1) && seasonFrom n (pre ++ [g]) l
def seasonOkB (n : Int) (l : List Game) : Bool := seasonFrom n [] l && decide ((l.length : Int) ≤ 60)
theorem seasonOk_eq (n : Int) (l : List Game) (hl : l.length ≤ 2305843009213693952) (k : Nat) (hk : l.length + 2 < k) : impl_SeasonOk.f k n l = some (seasonOkB n l) := by
  have key : ∀ (d i : Nat), l.length - i = d → i ≤ l.length → ∀ k, d + 1 < k → impl_SeasonOk.l0 k n l l l.length i = some (seasonFrom n (l.take i) (l.drop i) && decide ((l.length : Int) ≤ 60)) := by
    intro d
    induction d with
    | zero =>
      intro i hd hi k hk
      obtain ⟨k, rfl⟩ : ∃ m, k = m + 1 := ⟨k - 1, by omega⟩
      simp only [impl_SeasonOk.l0]
      rw [if_neg (by omega), List.drop_eq_nil_of_le (by omega), seasonFrom]
      rfl
    | succ d ih =>
      intro i hd hi k hk
      obtain ⟨k, rfl⟩ : ∃ m, k = m + 1 := ⟨k - 1, by omega⟩
      have hlt : i < l.length := by omega
      have := ih (i + 1) (by omega) (by omega) k (by omega)
      simp only [impl_SeasonOk.l0]
      rw [if_pos (by omega), if_pos (by omega), if_pos (by omega), rdG_eq l i hlt, wrap_succ i (by omega), this, List.drop_eq_getElem_cons hlt, gameOk_eq _ _ k (by omega), Int.toNat_natCast]
      simp only [Option.bind_some, seasonFrom, impl_GameOf.f]
      rw [if_pos (show (i : Int) ≤ l.length by omega), List.take_succ_eq_append_getElem hlt, ← idxI_any]
      by_cases h2 : idxI (gameIs l[i].f0 l[i].f1) (l.take i) ≥ 0
      · rw [if_pos h2, decide_eq_true (show 0 ≤ idxI (gameIs l[i].f0 l[i].f1) (l.take i) from h2)]
        cases gameOkB n l[i] <;> simp
      · rw [if_neg h2, decide_eq_false (show ¬ 0 ≤ idxI (gameIs l[i].f0 l[i].f1) (l.take i) from h2)]
        cases gameOkB n l[i] <;> simp
  unfold impl_SeasonOk.f seasonOkB
  have := key l.length 0 (by omega) (by omega) k (by omega)
  simpa using this
def penaltiesB (l : List Int) (n : Int) : Bool := decide ((l.length : Int) = n) && !l.any (fun x => !withinB x 0 1000)
def bookOkB (field : List Team) (win draw loss : Int) (ladder : List Int) (games : List Game) (fair taken : List Int) : Bool :=
  fieldOkB field && rulesOkB win draw loss ladder && seasonOkB field.length games && penaltiesB fair field.length && penaltiesB taken field.length
def Sized (field : List Team) (ladder : List Int) (games : List Game) : Prop :=
  (∀ t, t ∈ field → t.f0.size ≤ 4611686018427387904) ∧ ladder.length ≤ 1099511627776 ∧ games.length ≤ 1099511627776
theorem fieldOk_eq (field : List Team) (h : ∀ t, t ∈ field → t.f0.size ≤ 4611686018427387904) : impl_FieldOk.f field = some (fieldOkB field) := by
  unfold impl_FieldOk.f
  rw [if_pos]
  rw [List.all_eq_true]
  intro t ht
  exact decide_eq_true (h t ht)
theorem bookOk_eq (field : List Team) (win draw loss : Int) (ladder : List Int) (again : Bool) (games : List Game) (fair taken : List Int) (hs : Sized field ladder games) (k : Nat) (hk : 2 * ladder.length + games.length + 2 < k) :
    impl_BookOk.f k field win draw loss ladder again games fair taken = some (bookOkB field win draw loss ladder games fair taken) := by
  obtain ⟨h1, h2, h3⟩ := hs
  unfold impl_BookOk.f bookOkB
  rw [fieldOk_eq field h1, rulesOk_eq _ _ _ _ _ (by omega) k (by omega), seasonOk_eq _ _ (by omega) k (by omega)]
  simp only [Option.bind_some, impl_arePenalties.f, penaltiesB]
  cases fieldOkB field <;> cases rulesOkB win draw loss ladder <;> cases seasonOkB field.length games <;> simp
  grind
def mk (l : List UInt8) : ByteArray := ⟨l.toArray⟩
theorem set_next {α β : Type} (f : α → β) (z : β) (l : List α) (i : Nat) (h : i < l.length) (y : β) (hy : y = f l[i]) : ((l.take i).map f ++ List.replicate (l.length - i) z).set i y = (l.take (i + 1)).map f ++ List.replicate (l.length - (i + 1)) z := by
  rw [List.set_append, if_neg (by rw [List.length_map, List.length_take]; omega), List.take_succ_eq_append_getElem h, show l.length - i = (l.length - (i + 1)) + 1 by omega, List.replicate_succ, List.length_map, List.length_take, Nat.min_eq_left (by omega), Nat.sub_self, List.set_cons_zero, List.map_append, List.append_assoc, hy]
  rfl
theorem toInt_ev (l : List Int) (hl : l.length ≤ 1048576) : Ev (fun k => laws_toIntS.f k l) l := by
  have h : ∀ i, i ≤ l.length → Ev (fun k => laws_toIntS.l0 k l ((l.take i).map id ++ List.replicate (l.length - i) 0) (i : Int)) l := by
    intro i hi
    obtain ⟨d, hd⟩ : ∃ d, i + d = l.length := ⟨l.length - i, by omega⟩
    induction d generalizing i with
    | zero =>
      obtain rfl : i = l.length := by omega
      exact Ev.step (f := fun _ => some l) (fun k => by rw [laws_toIntS.l0, if_neg (by omega), List.take_length, Nat.sub_self]; simp) (Ev.now _)
    | succ d ih =>
      have hlt : i < l.length := by omega
      refine Ev.step (fun k => ?_) (ih (i + 1) (by omega) (by omega))
      rw [laws_toIntS.l0, if_pos (by omega), if_pos (by omega), rd_eq l i hlt, if_pos (by simp; omega), wrap_succ i (by omega), Int.toNat_natCast, set_next id 0 l i hlt l[i] rfl]
  refine Ev.congr (fun k => ?_) (h 0 (by omega))
  unfold laws_toIntS.f
  rw [if_pos (by omega), if_pos (by omega)]
  rfl
theorem eqInt_ev (l : List Int) (hl : l.length ≤ 1048576) : Ev (fun k => laws_eqIntS.f k l l) true := by
  refine Ev.loop l.length (fun i k => laws_eqIntS.l0 k l l (i : Int)) (fun _ => true) (fun k => by unfold laws_eqIntS.f; rw [if_pos rfl]; rfl) rfl ?_ ?_
  · exact Ev.step (f := fun _ => some true) (fun k => by rw [laws_eqIntS.l0, if_neg (by omega)]) (Ev.now _)
  · intro i hi h
    exact Ev.step (fun k => by rw [laws_eqIntS.l0, if_pos (by omega), if_pos (by omega), if_pos (by omega), if_pos rfl, wrap_succ i (by omega)]) h
theorem szInt_eq (r : List Int) (x : Int) (h0 : 0 ≤ x) (h1 : x ≤ 1048576) (hr : r.length ≤ 9223372036854775807) : laws_szIntS.f r x = some (if x - r.length < 0 then -1 else x - r.length) := by
  unfold laws_szIntS.f
  rw [wrap_id _ (by omega) (by omega)]
  split <;> rfl
abbrev TeamA := S133
abbrev GameA := S147
def convT (x : TeamA) : Team := ⟨x.f0, x.f1, x.f2⟩
def convG (x : GameA) : Game := ⟨x.f0, x.f1, x.f2, x.f3, x.f4⟩
theorem rdTA_eq (l : List TeamA) (i : Nat) (h : i < l.length) : rd_T133 l (i : Int) = l[i] := by
  unfold rd_T133; simp [h]
theorem rdGA_eq (l : List GameA) (i : Nat) (h : i < l.length) : rd_T147 l (i : Int) = l[i] := by
  unfold rd_T147; simp [h]
theorem toTeam_ev (l : List TeamA) (hl : l.length ≤ 1048576) : Ev (fun k => laws_toTeamS.f k l) (l.map convT) := by
  refine Ev.loop l.length (fun i k => laws_toTeamS.l0 k l ((l.take i).map convT ++ List.replicate (l.length - i) z139) (i : Int)) (fun _ => l.map convT) (fun k => by unfold laws_toTeamS.f; rw [if_pos (by omega), if_pos (by omega)]; rfl) rfl ?_ ?_
  · exact Ev.step (f := fun _ => some (l.map convT)) (fun k => by rw [laws_toTeamS.l0, if_neg (by omega), List.take_length, Nat.sub_self]; simp) (Ev.now _)
  · intro i hi h
    refine Ev.step (fun k => ?_) h
    rw [laws_toTeamS.l0, if_pos (by omega), if_pos (by omega), rdTA_eq l i hi, laws_toTeam.f, Option.bind_some, if_pos (by simp; omega), wrap_succ i (by omega), Int.toNat_natCast, set_next convT z139 l i hi ⟨l[i].f0, l[i].f1, l[i].f2⟩ rfl]
theorem toGame_ev (l : List GameA) (hl : l.length ≤ 1048576) : Ev (fun k => laws_toGameS.f k l) (l.map convG) := by
  refine Ev.loop l.length (fun i k => laws_toGameS.l0 k l ((l.take i).map convG ++ List.replicate (l.length - i) z95) (i : Int)) (fun _ => l.map convG) (fun k => by unfold laws_toGameS.f; rw [if_pos (by omega), if_pos (by omega)]; rfl) rfl ?_ ?_
  · exact Ev.step (f := fun _ => some (l.map convG)) (fun k => by rw [laws_toGameS.l0, if_neg (by omega), List.take_length, Nat.sub_self]; simp) (Ev.now _)
  · intro i hi h
    refine Ev.step (fun k => ?_) h
    rw [laws_toGameS.l0, if_pos (by omega), if_pos (by omega), rdGA_eq l i hi, laws_toGame.f, Option.bind_some, if_pos (by simp; omega), wrap_succ i (by omega), Int.toNat_natCast, set_next convG z95 l i hi ⟨l[i].f0, l[i].f1, l[i].f2, l[i].f3, l[i].f4⟩ rfl]
theorem eqTeam_ev (l : List Team) (hl : l.length ≤ 1048576) : Ev (fun k => laws_eqTeamS.f k l l) true := by
  refine Ev.loop l.length (fun i k => laws_eqTeamS.l0 k l l (i : Int)) (fun _ => true) (fun k => by unfold laws_eqTeamS.f; rw [if_pos rfl]; rfl) rfl ?_ ?_
  · exact Ev.step (f := fun _ => some true) (fun k => by rw [laws_eqTeamS.l0, if_neg (by omega)]) (Ev.now _)
  · intro i hi h
    exact Ev.step (fun k => by rw [laws_eqTeamS.l0, if_pos (by omega), if_pos (by omega), if_pos (by omega), laws_eqTeam.f, if_pos rfl, if_pos rfl, if_pos rfl, Option.bind_some, if_pos rfl, wrap_succ i (by omega)]) h
theorem eqGame_ev (l : List Game) (hl : l.length ≤ 1048576) : Ev (fun k => laws_eqGameS.f k l l) true := by
  refine Ev.loop l.length (fun i k => laws_eqGameS.l0 k l l (i : Int)) (fun _ => true) (fun k => by unfold laws_eqGameS.f; rw [if_pos rfl]; rfl) rfl ?_ ?_
  · exact Ev.step (f := fun _ => some true) (fun k => by rw [laws_eqGameS.l0, if_neg (by omega)]) (Ev.now _)
  · intro i hi h
    exact Ev.step (fun k => by rw [laws_eqGameS.l0, if_pos (by omega), if_pos (by omega), if_pos (by omega), laws_eqGame.f, if_pos rfl, if_pos rfl, if_pos rfl, if_pos rfl, if_pos rfl, Option.bind_some, if_pos rfl, wrap_succ i (by omega)]) h
theorem toBook_ev (F : List TeamA) (w d s : Int) (L : List Int) (ag : Bool) (G : List GameA) (fa ta : List Int) (h1 : F.length ≤ 1048576) (h2 : L.length ≤ 1048576) (h3 : G.length ≤ 1048576) (h4 : fa.length ≤ 1048576) (h5 : ta.length ≤ 1048576) :
    Ev (fun k => laws_toBook.f k F w d s L ag G fa ta) (F.map convT, w, d, s, L, ag, G.map convG, fa, ta) := by
  unfold laws_toBook.f laws_toRules.f
  exact Ev.bind (toTeam_ev F h1) (Ev.bind (Ev.bind (toInt_ev L h2) (Ev.now (w, d, s, L, ag))) (Ev.bind (toGame_ev G h3) (Ev.bind (toInt_ev fa h4) (Ev.bind (toInt_ev ta h5) (Ev.now _)))))
theorem eqRules_ev (w d s : Int) (L : List Int) (ag : Bool) (h2 : L.length ≤ 1048576) : Ev (fun k => laws_eqRules.f k w d s L ag w d s L ag) true := by
  unfold laws_eqRules.f
  refine Ev.congr (fun k => by rw [if_pos rfl, if_pos rfl, if_pos rfl]) (Ev.bind (eqInt_ev L h2) (Ev.val fun k => ?_))
  simp
theorem eqBook_ev (F : List Team) (w d s : Int) (L : List Int) (ag : Bool) (G : List Game) (fa ta : List Int) (h1 : F.length ≤ 1048576) (h2 : L.length ≤ 1048576) (h3 : G.length ≤ 1048576) (h4 : fa.length ≤ 1048576) (h5 : ta.length ≤ 1048576) :
    Ev (fun k => laws_eqBook.f k F w d s L ag G fa ta F w d s L ag G fa ta) true := by
  unfold laws_eqBook.f
  refine Ev.bind (eqTeam_ev F h1) (Ev.congr (fun k => by rw [if_pos rfl]) (Ev.bind (eqRules_ev w d s L ag h2) (Ev.congr (fun k => by rw [if_pos rfl]) (Ev.bind (eqGame_ev G h3) (Ev.congr (fun k => by rw [if_pos rfl]) (Ev.bind (eqInt_ev fa h4) (Ev.congr (fun k => by rw [if_pos rfl]) (Ev.bind (eqInt_ev ta h5) (Ev.val fun k => by rw [if_pos rfl])))))))))
structure BkSmall (F : List TeamA) (L : List Int) (G : List GameA) (fa ta : List Int) : Prop where
  f : F.length ≤ 1048576
  n : ∀ t ∈ F, t.f0.size ≤ 1048576
  l : L.length ≤ 1048576
  g : G.length ≤ 1048576
  x : fa.length ≤ 1048576
  y : ta.length ≤ 1048576
theorem szTeam_ev (l : List TeamA) (hl : l.length ≤ 9223372036854775807) (hn : ∀ t ∈ l, t.f0.size ≤ 9223372036854775807) (x : Int) (h0 : 0 ≤ x) (h1 : x ≤ 1048576) : ∃ t, Ev (fun k => laws_szTeamS.f k l x) t ∧ (t < 0 ∨ 0 ≤ t ∧ t ≤ x ∧ l.length ≤ 1048576 ∧ ∀ r ∈ l, r.f0.size ≤ 1048576) := by
  have key : l.length ≤ 1048576 → ∀ (d i : Nat) (x : Int), i + d = l.length → 0 ≤ x → x ≤ 1048576 → ∃ t, Ev (fun k => laws_szTeamS.l0 k l x (i : Int)) t ∧ (t < 0 ∨ 0 ≤ t ∧ t ≤ x ∧ ∀ r ∈ l.drop i, r.f0.size ≤ 1048576) := by
    intro hl2 d
    induction d with
    | zero =>
      intro i x hi h0 h1
      refine ⟨x, Ev.step (f := fun _ => some x) (fun k => by rw [laws_szTeamS.l0, if_neg (by omega)]) (Ev.now _), .inr ⟨h0, Int.le_refl _, ?_⟩⟩
      rw [List.drop_eq_nil_of_le (by omega)]
      intro r hr; cases hr
    | succ d ih =>
      intro i x hi h0 h1
      have hlt : i < l.length := by omega
      have hm := hn l[i] (List.getElem_mem hlt)
      have hw : wrap64 (x - (l[i].f0.size : Int)) = x - l[i].f0.size := wrap_id _ (by omega) (by omega)
      by_cases h : x - (l[i].f0.size : Int) < 0
      · exact ⟨-1, Ev.step (f := fun _ => some (-1)) (fun k => by rw [laws_szTeamS.l0, if_pos (by omega), if_pos (by omega), rdTA_eq l i hlt, laws_szTeam.f, hw, if_pos h, Option.bind_some, if_pos (by decide)]) (Ev.now _), .inl (by decide)⟩
      · obtain ⟨t, e, ht⟩ := ih (i + 1) (x - l[i].f0.size) (by omega) (by omega) (by omega)
        refine ⟨t, Ev.step (fun k => by rw [laws_szTeamS.l0, if_pos (by omega), if_pos (by omega), rdTA_eq l i hlt, laws_szTeam.f, hw, if_neg h, Option.bind_some, if_neg h, wrap_succ i (by omega)]) e, ?_⟩
        rcases ht with ht | ⟨ht, ht2, hd⟩
        · exact .inl ht
        · refine .inr ⟨ht, by omega, ?_⟩
          rw [List.drop_eq_getElem_cons hlt]
          intro r hr
          rcases List.mem_cons.mp hr with rfl | hr
          · omega
          · exact hd r hr
  by_cases h : x - (l.length : Int) < 0
  · exact ⟨-1, Ev.congr (f := fun _ => some (-1)) (fun k => by unfold laws_szTeamS.f; rw [wrap_id _ (by omega) (by omega), if_pos h]) (Ev.now _), .inl (by decide)⟩
  · obtain ⟨t, e, ht⟩ := key (by omega) l.length 0 (x - l.length) (by omega) (by omega) (by omega)
    refine ⟨t, Ev.congr (fun k => by unfold laws_szTeamS.f; rw [wrap_id _ (by omega) (by omega), if_neg h]; rfl) e, ?_⟩
    rcases ht with ht | ⟨ht, ht2, hd⟩
    · exact .inl ht
    · exact .inr ⟨ht, by omega, by omega, by rw [List.drop_zero] at hd; exact hd⟩
theorem szGame_eq (r : List GameA) (x : Int) (h0 : 0 ≤ x) (h1 : x ≤ 1048576) (hr : r.length ≤ 9223372036854775807) : laws_szGameS.f r x = some (if x - r.length < 0 then -1 else x - r.length) := by
  unfold laws_szGameS.f
  rw [wrap_id _ (by omega) (by omega)]
  split <;> rfl
theorem szBook_ev (F : List TeamA) (w d s : Int) (L : List Int) (ag : Bool) (G : List GameA) (fa ta : List Int) (hf : F.length ≤ 9223372036854775807) (hn : ∀ t ∈ F, t.f0.size ≤ 9223372036854775807) (hl : L.length ≤ 9223372036854775807) (hg : G.length ≤ 9223372036854775807) (hx : fa.length ≤ 9223372036854775807) (hy : ta.length ≤ 9223372036854775807) :
    ∃ t, Ev (fun k => laws_szBook.f k F w d s L ag G fa ta 1048576) t ∧ (t < 0 ∨ 0 ≤ t ∧ t ≤ 1048576 ∧ BkSmall F L G fa ta) := by
  obtain ⟨t1, e1, c1⟩ := szTeam_ev F hf hn 1048576 (by decide) (by decide)
  have neg : ∀ {g : Nat → Option Int}, Ev g (-1) → ∃ t, Ev g t ∧ (t < 0 ∨ 0 ≤ t ∧ t ≤ 1048576 ∧ BkSmall F L G fa ta) := fun e => ⟨_, e, .inl (by decide)⟩
  unfold laws_szBook.f
  rcases c1 with c1 | ⟨c0, c2, c3, c4⟩
  · exact neg (Ev.bind e1 (Ev.val fun k => by rw [if_pos c1]))
  have r1 := szInt_eq L t1 c0 c2 (by omega)
  by_cases d1 : t1 - (L.length : Int) < 0
  · rw [if_pos d1] at r1
    exact neg (Ev.bind e1 (Ev.val fun k => by rw [if_neg (by omega), laws_szRules.f, r1, Option.bind_some, if_pos (by decide), Option.bind_some, if_pos (by decide)]))
  rw [if_neg d1] at r1
  have r2 := szGame_eq G (t1 - L.length) (by omega) (by omega) (by omega)
  by_cases d2 : t1 - (L.length : Int) - G.length < 0
  · rw [if_pos d2] at r2
    exact neg (Ev.bind e1 (Ev.val fun k => by rw [if_neg (by omega), laws_szRules.f, r1, Option.bind_some, if_neg d1, Option.bind_some, if_neg d1, r2, Option.bind_some, if_pos (by decide)]))
  rw [if_neg d2] at r2
  have r3 := szInt_eq fa (t1 - L.length - G.length) (by omega) (by omega) (by omega)
  by_cases d3 : t1 - (L.length : Int) - G.length - fa.length < 0
  · rw [if_pos d3] at r3
    exact neg (Ev.bind e1 (Ev.val fun k => by rw [if_neg (by omega), laws_szRules.f, r1, Option.bind_some, if_neg d1, Option.bind_some, if_neg d1, r2, Option.bind_some, if_neg d2, r3, Option.bind_some, if_pos (by decide)]))
  rw [if_neg d3] at r3
  have r4 := szInt_eq ta (t1 - L.length - G.length - fa.length) (by omega) (by omega) (by omega)
  by_cases d4 : t1 - (L.length : Int) - G.length - fa.length - ta.length < 0
  · rw [if_pos d4] at r4
    exact neg (Ev.bind e1 (Ev.val fun k => by rw [if_neg (by omega), laws_szRules.f, r1, Option.bind_some, if_neg d1, Option.bind_some, if_neg d1, r2, Option.bind_some, if_neg d2, r3, Option.bind_some, if_neg d3, r4, Option.bind_some, if_pos (by decide)]))
  rw [if_neg d4] at r4
  refine ⟨_, Ev.bind e1 (Ev.val fun k => by rw [if_neg (by omega), laws_szRules.f, r1, Option.bind_some, if_neg d1, Option.bind_some, if_neg d1, r2, Option.bind_some, if_neg d2, r3, Option.bind_some, if_neg d3, r4, Option.bind_some, if_neg d4]), .inr ⟨by omega, by omega, ⟨c3, c4, ?_, ?_, ?_, ?_⟩⟩⟩ <;> omega
def BkArg (F : List TeamA) (w d s : Int) (L : List Int) (G : List GameA) (fa ta : List Int) : Prop :=
  (F.length ≤ maxLen ∧ ∀ t ∈ F, t.f0.size ≤ maxLen ∧ (Lit.int .i64 t.f1).wf = true ∧ (Lit.int .i64 t.f2).wf = true) ∧
  ((Lit.int .i64 w).wf = true ∧ (Lit.int .i64 d).wf = true ∧ (Lit.int .i64 s).wf = true ∧ (L.length ≤ maxLen ∧ ∀ x ∈ L, (Lit.int .i64 x).wf = true) ∧ True) ∧
  (G.length ≤ maxLen ∧ ∀ g ∈ G, (Lit.int .i64 g.f0).wf = true ∧ (Lit.int .i64 g.f1).wf = true ∧ (Lit.int .i64 g.f2).wf = true ∧ (Lit.int .i64 g.f3).wf = true ∧ (Lit.int .i64 g.f4).wf = true) ∧
  (fa.length ≤ maxLen ∧ ∀ x ∈ fa, (Lit.int .i64 x).wf = true) ∧ (ta.length ≤ maxLen ∧ ∀ x ∈ ta, (Lit.int .i64 x).wf = true)
theorem szBook_arg (F : List TeamA) (w d s : Int) (L : List Int) (ag : Bool) (G : List GameA) (fa ta : List Int) (h : BkArg F w d s L G fa ta) :
    ∃ t, Ev (fun k => laws_szBook.f k F w d s L ag G fa ta 1048576) t ∧ (t < 0 ∨ 0 ≤ t ∧ t ≤ 1048576 ∧ BkSmall F L G fa ta) :=
  szBook_ev F w d s L ag G fa ta h.1.1 (fun t ht => (h.1.2 t ht).1) h.2.1.2.2.2.1.1 h.2.2.1.1 h.2.2.2.1.1 h.2.2.2.2.1
end Go.Proofs.Ythfefanapneocaa.Q
namespace Go.Proofs.Ythfefanapneocaa.Q
open Go.RowKit Go.Proofs.YthfefanapneocaaW.PrintWords Go.Proofs.YthfefanapneocaaW.PrintLast Go.Proofs.YthfefanapneocaaW.PrintMore
attribute [local go_sem] max2_int min2_int max_two min_two max_three min_three max_four min_four
set_option linter.unusedVariables false
set_option linter.unusedSimpArgs false
def impl_awarded.f (a0_0 : Int) (a0_1 : Int) (a0_2 : Int) (a0_3 : Int) (a0_4 : Int) (a1 : Int) : Option (Int × Int × Int × Int × Int) := if a0_1 = a1 then (some (a0_0, a0_1, 0, 0, 3)) else (some (a0_0, a0_1, 0, 0, 2))
def impl_RuleName.f (a0 : Int) : Option (ByteArray) := if a0 = 1 then (some (⟨#[97, 110, 110, 117, 108]⟩ : ByteArray)) else (if a0 = 2 then (some (⟨#[102, 111, 114, 102, 101, 105, 116]⟩ : ByteArray)) else (some (⟨#[]⟩ : ByteArray)))
mutual
def impl_Withdraw.j0 : Nat → Int → Int → Bool → List (S139) → Int → Int → Int → List Int → Bool → List (S95) → List Int → List Int → Option ((List (S139)) × Int × Int × Int × List Int × Bool × (List (S95)) × List Int × List Int × Bool)
 | 0, _, _, _, _, _, _, _, _, _, _, _, _ => none
 | k + 1, x1, x2, x24, x911000, x911001, x911002, x911003, x911004, x911005, x911006, x911007, x911008 => if x24 = true then (some (([] : List (S139)), 0, 0, 0, ([] : List Int), false, ([] : List (S95)), ([] : List Int), ([] : List Int), false)) else ((impl_Book_copied.f x911000 x911001 x911002 x911003 x911004 x911005 x911006 x911007 x911008).bind fun bt915 => (impl_Withdraw.l0 k x1 x2 (bt915.2.2.2.2.2.2.1.length : Int) 0 bt915.1 bt915.2.1 bt915.2.2.1 bt915.2.2.2.1 bt915.2.2.2.2.1 bt915.2.2.2.2.2.1 bt915.2.2.2.2.2.2.1 bt915.2.2.2.2.2.2.2.1 bt915.2.2.2.2.2.2.2.2))
def impl_Withdraw.l0 : Nat → Int → Int → Int → Int → List (S139) → Int → Int → Int → List Int → Bool → List (S95) → List Int → List Int → Option ((List (S139)) × Int × Int × Int × List Int × Bool × (List (S95)) × List Int × List Int × Bool)
 | 0, _, _, _, _, _, _, _, _, _, _, _, _, _ => none
 | k + 1, x1, x2, x30, x31, x935000, x935001, x935002, x935003, x935004, x935005, x935006, x935007, x935008 => if x31 < x30 then (if 0 ≤ x31 then (if x31 < (x935006.length : Int) then ((impl_plays.f ((rd_T95 x935006 x31).f0) ((rd_T95 x935006 x31).f1) ((rd_T95 x935006 x31).f2) ((rd_T95 x935006 x31).f3) ((rd_T95 x935006 x31).f4) x1).bind fun t937 => (if t937 = true then (if x2 = 1 then (impl_Withdraw.l0 k x1 x2 x30 (wrap64 (x31 + 1)) x935000 x935001 x935002 x935003 x935004 x935005 (x935006.set (x31 : Int).toNat (⟨(rd_T95 x935006 x31).f0, (rd_T95 x935006 x31).f1, 0, 0, 4⟩ : S95)) x935007 x935008) else ((impl_IsOpen.f ((rd_T95 x935006 x31).f0) ((rd_T95 x935006 x31).f1) ((rd_T95 x935006 x31).f2) ((rd_T95 x935006 x31).f3) ((rd_T95 x935006 x31).f4)).bind fun t939 => (if t939 = true then ((impl_awarded.f ((rd_T95 x935006 x31).f0) ((rd_T95 x935006 x31).f1) ((rd_T95 x935006 x31).f2) ((rd_T95 x935006 x31).f3) ((rd_T95 x935006 x31).f4) (wrap64 ((wrap64 (((rd_T95 x935006 x31).f0) + ((rd_T95 x935006 x31).f1))) - x1))).bind fun bt940 => (impl_Withdraw.l0 k x1 x2 x30 (wrap64 (x31 + 1)) x935000 x935001 x935002 x935003 x935004 x935005 (x935006.set (x31 : Int).toNat (⟨bt940.1, bt940.2.1, bt940.2.2.1, bt940.2.2.2.1, bt940.2.2.2.2⟩ : S95)) x935007 x935008)) else (impl_Withdraw.l0 k x1 x2 x30 (wrap64 (x31 + 1)) x935000 x935001 x935002 x935003 x935004 x935005 x935006 x935007 x935008)))) else (impl_Withdraw.l0 k x1 x2 x30 (wrap64 (x31 + 1)) x935000 x935001 x935002 x935003 x935004 x935005 x935006 x935007 x935008))) else (none)) else (none)) else (some (x935000, x935001, x935002, x935003, x935004, x935005, x935006, x935007, x935008, true))
end
def impl_Withdraw.f (k : Nat) (l0_0 : List (S139)) (a0_1 : Int) (a0_2 : Int) (a0_3 : Int) (l0_4 : List Int) (a0_5 : Bool) (l0_6 : List (S95)) (l0_7 : List Int) (l0_8 : List Int) (a1 : Int) (a2 : Int) : Option ((List (S139)) × Int × Int × Int × List Int × Bool × (List (S95)) × List Int × List Int × Bool) := (impl_BookOk.f k l0_0 a0_1 a0_2 a0_3 l0_4 a0_5 l0_6 l0_7 l0_8).bind fun t912 => (if t912 = true then ((impl_isTeam.f l0_0 a0_1 a0_2 a0_3 l0_4 a0_5 l0_6 l0_7 l0_8 a1).bind fun t913 => (if t913 = true then ((impl_RuleName.f a2).bind fun t914 => (impl_Withdraw.j0 k a1 a2 (t914.toList == ([] : List UInt8)) l0_0 a0_1 a0_2 a0_3 l0_4 a0_5 l0_6 l0_7 l0_8)) else (impl_Withdraw.j0 k a1 a2 true l0_0 a0_1 a0_2 a0_3 l0_4 a0_5 l0_6 l0_7 l0_8))) else (impl_Withdraw.j0 k a1 a2 true l0_0 a0_1 a0_2 a0_3 l0_4 a0_5 l0_6 l0_7 l0_8))
theorem fieldTable27_ (a0 a1 a2 a3 a4 a5 a6 a7 a8 v : Value) (w : World) : (Instr.field 117 (.agg #[a0, a1, a2, a3, a4, a5, a6, a7, a8, v]) 1).run Try.prog w = .ok v w := by
 have hu := Try.underlying117
 unfold Instr.field
 go_simp
 simp [asAgg]
attribute [local go_sem] fieldTable27_
def impl_PointsLost.l0 : Nat → List Int → List (S115) → List (S115) → Int → Int → Option (List Int)
 | 0, _, _, _, _, _ => none
 | k + 1, x9, x10, x28, x29, x30 => if x30 < x29 then (if 0 ≤ x30 then (if x30 < (x28.length : Int) then (if x30 < (x10.length : Int) then (if x9.length < 17592186044416 then (impl_PointsLost.l0 k (x9 ++ [wrap64 (((rd_T115 x28 x30).f6) - ((rd_T115 x10 x30).f6))]) x10 x28 x29 (wrap64 (x30 + 1))) else (none)) else (none)) else (none)) else (none)) else (some x9)
def impl_PointsLost.f (k : Nat) (l0_0 : List (S139)) (a0_1 : Int) (a0_2 : Int) (a0_3 : Int) (l0_4 : List Int) (a0_5 : Bool) (l0_6 : List (S95)) (l0_7 : List Int) (l0_8 : List Int) (a1 : Int) (a2 : Int) : Option (List Int) := (impl_Withdraw.f k l0_0 a0_1 a0_2 a0_3 l0_4 a0_5 l0_6 l0_7 l0_8 a1 a2).bind fun bt1217 => (if bt1217.2.2.2.2.2.2.2.2.2 = true then ((impl_rankerOf.f k bt1217.1 bt1217.2.1 bt1217.2.2.1 bt1217.2.2.2.1 bt1217.2.2.2.2.1 bt1217.2.2.2.2.2.1 bt1217.2.2.2.2.2.2.1 bt1217.2.2.2.2.2.2.2.1 bt1217.2.2.2.2.2.2.2.2.1).bind fun t1241 => ((impl_rankerOf.f k l0_0 a0_1 a0_2 a0_3 l0_4 a0_5 l0_6 l0_7 l0_8).bind fun t1244 => (impl_PointsLost.l0 k (([] : List Int)) t1241 t1244 (t1244.length : Int) 0))) else (some ([] : List Int)))
def spec_l21Award.f (a0_0 : Int) (a0_1 : Int) (a0_2 : Int) (a0_3 : Int) (a0_4 : Int) (a1 : Int) : Option (Int × Int × Int × Int × Int) := if a0_0 = a1 then (some (a0_0, a0_1, 0, 0, 2)) else (some (a0_0, a0_1, 0, 0, 3))
mutual
def spec_Withdraw.j0 : Nat → Int → Int → Bool → List (S139) → Int → Int → Int → List Int → Bool → List (S95) → List Int → List Int → Option ((List (S139)) × Int × Int × Int × List Int × Bool × (List (S95)) × List Int × List Int × Bool)
 | 0, _, _, _, _, _, _, _, _, _, _, _, _ => none
 | k + 1, x1, x2, x27, x873000, x873001, x873002, x873003, x873004, x873005, x873006, x873007, x873008 => if x27 = true then (some (([] : List (S139)), 0, 0, 0, ([] : List Int), false, ([] : List (S95)), ([] : List Int), ([] : List Int), false)) else ((spec_l16Copy.f x873000 x873001 x873002 x873003 x873004 x873005 x873006 x873007 x873008).bind fun bt877 => (spec_Withdraw.l0 k x1 x2 (bt877.2.2.2.2.2.2.1.length : Int) 0 bt877.1 bt877.2.1 bt877.2.2.1 bt877.2.2.2.1 bt877.2.2.2.2.1 bt877.2.2.2.2.2.1 bt877.2.2.2.2.2.2.1 bt877.2.2.2.2.2.2.2.1 bt877.2.2.2.2.2.2.2.2))
def spec_Withdraw.l0 : Nat → Int → Int → Int → Int → List (S139) → Int → Int → Int → List Int → Bool → List (S95) → List Int → List Int → Option ((List (S139)) × Int × Int × Int × List Int × Bool × (List (S95)) × List Int × List Int × Bool)
 | 0, _, _, _, _, _, _, _, _, _, _, _, _, _ => none
 | k + 1, x1, x2, x33, x34, x897000, x897001, x897002, x897003, x897004, x897005, x897006, x897007, x897008 => if x34 < x33 then (if 0 ≤ x34 then (if x34 < (x897006.length : Int) then (if ((rd_T95 x897006 x34).f0) = x1 then (spec_Withdraw.j2 k x1 x2 x34 x33 x34 false x897000 x897001 x897002 x897003 x897004 x897005 x897006 x897007 x897008 ((rd_T95 x897006 x34).f0) ((rd_T95 x897006 x34).f1) ((rd_T95 x897006 x34).f2) ((rd_T95 x897006 x34).f3) ((rd_T95 x897006 x34).f4)) else (spec_Withdraw.j2 k x1 x2 x34 x33 x34 (((rd_T95 x897006 x34).f1) != x1) x897000 x897001 x897002 x897003 x897004 x897005 x897006 x897007 x897008 ((rd_T95 x897006 x34).f0) ((rd_T95 x897006 x34).f1) ((rd_T95 x897006 x34).f2) ((rd_T95 x897006 x34).f3) ((rd_T95 x897006 x34).f4))) else (none)) else (none)) else (some (x897000, x897001, x897002, x897003, x897004, x897005, x897006, x897007, x897008, true))
def spec_Withdraw.j2 : Nat → Int → Int → Int → Int → Int → Bool → List (S139) → Int → Int → Int → List Int → Bool → List (S95) → List Int → List Int → Int → Int → Int → Int → Int → Option ((List (S139)) × Int × Int × Int × List Int × Bool × (List (S95)) × List Int × List Int × Bool)
 | 0, _, _, _, _, _, _, _, _, _, _, _, _, _, _, _, _, _, _, _, _ => none
 | k + 1, x1, x2, x9, x33, x34, x48, x897000, x897001, x897002, x897003, x897004, x897005, x897006, x897007, x897008, x899000, x899001, x899002, x899003, x899004 => if x48 = true then (spec_Withdraw.l0 k x1 x2 x33 (wrap64 (x34 + 1)) x897000 x897001 x897002 x897003 x897004 x897005 x897006 x897007 x897008) else (if x2 = 1 then (if 0 ≤ x9 then (if x9 < (x897006.length : Int) then (spec_Withdraw.l0 k x1 x2 x33 (wrap64 (x34 + 1)) x897000 x897001 x897002 x897003 x897004 x897005 (x897006.set (x9 : Int).toNat (⟨x899000, x899001, 0, 0, 4⟩ : S95)) x897007 x897008) else (none)) else (none)) else ((spec_IsOpen.f x899000 x899001 x899002 x899003 x899004).bind fun t900 => (if t900 = true then ((spec_l21Award.f x899000 x899001 x899002 x899003 x899004 (wrap64 ((wrap64 (x899000 + x899001)) - x1))).bind fun bt901 => (if 0 ≤ x9 then (if x9 < (x897006.length : Int) then (spec_Withdraw.l0 k x1 x2 x33 (wrap64 (x34 + 1)) x897000 x897001 x897002 x897003 x897004 x897005 (x897006.set (x9 : Int).toNat (⟨bt901.1, bt901.2.1, bt901.2.2.1, bt901.2.2.2.1, bt901.2.2.2.2⟩ : S95)) x897007 x897008) else (none)) else (none))) else (spec_Withdraw.l0 k x1 x2 x33 (wrap64 (x34 + 1)) x897000 x897001 x897002 x897003 x897004 x897005 x897006 x897007 x897008))))
end
def spec_Withdraw.f (k : Nat) (l0_0 : List (S139)) (a0_1 : Int) (a0_2 : Int) (a0_3 : Int) (l0_4 : List Int) (a0_5 : Bool) (l0_6 : List (S95)) (l0_7 : List Int) (l0_8 : List Int) (a1 : Int) (a2 : Int) : Option ((List (S139)) × Int × Int × Int × List Int × Bool × (List (S95)) × List Int × List Int × Bool) := (spec_BookOk.f k l0_0 a0_1 a0_2 a0_3 l0_4 a0_5 l0_6 l0_7 l0_8).bind fun t874 => (if t874 = true then ((spec_l01In.f a1 0 (wrap64 ((l0_0.length : Int) - 1))).bind fun t875 => (if t875 = true then ((spec_l01In.f a2 1 2).bind fun t876 => (spec_Withdraw.j0 k a1 a2 (!t876) l0_0 a0_1 a0_2 a0_3 l0_4 a0_5 l0_6 l0_7 l0_8)) else (spec_Withdraw.j0 k a1 a2 true l0_0 a0_1 a0_2 a0_3 l0_4 a0_5 l0_6 l0_7 l0_8))) else (spec_Withdraw.j0 k a1 a2 true l0_0 a0_1 a0_2 a0_3 l0_4 a0_5 l0_6 l0_7 l0_8))
def spec_PointsLost.l0 : Nat → List (S115) → List Int → List (S115) → Int → Int → Option (List Int)
 | 0, _, _, _, _, _ => none
 | k + 1, x10, x11, x40, x41, x42 => if x42 < x41 then (if 0 ≤ x42 then (if x42 < (x40.length : Int) then (if x42 < (x10.length : Int) then (if x11.length < 17592186044416 then (spec_PointsLost.l0 k x10 (x11 ++ [wrap64 (((rd_T115 x40 x42).f6) - ((rd_T115 x10 x42).f6))]) x40 x41 (wrap64 (x42 + 1))) else (none)) else (none)) else (none)) else (none)) else (some x11)
def spec_PointsLost.f (k : Nat) (l0_0 : List (S139)) (a0_1 : Int) (a0_2 : Int) (a0_3 : Int) (l0_4 : List Int) (a0_5 : Bool) (l0_6 : List (S95)) (l0_7 : List Int) (l0_8 : List Int) (a1 : Int) (a2 : Int) : Option (List Int) := (spec_Withdraw.f k l0_0 a0_1 a0_2 a0_3 l0_4 a0_5 l0_6 l0_7 l0_8 a1 a2).bind fun bt1151 => (if bt1151.2.2.2.2.2.2.2.2.2 = true then ((spec_l06Among.f k a0_1 a0_2 a0_3 l0_4 a0_5 (l0_0.length : Int) l0_6 ([] : List Int) true).bind fun t1172 => ((spec_l06Among.f k bt1151.2.1 bt1151.2.2.1 bt1151.2.2.2.1 bt1151.2.2.2.2.1 bt1151.2.2.2.2.2.1 (bt1151.1.length : Int) bt1151.2.2.2.2.2.2.1 ([] : List Int) true).bind fun t1175 => (spec_PointsLost.l0 k t1175 (([] : List Int)) t1172 (t1172.length : Int) 0))) else (some ([] : List Int)))
end Go.Proofs.Ythfefanapneocaa.Q
namespace Go.Proofs.Ythfefanapneocaa.Q
open Go.RowKit Go.Proofs.YthfefanapneocaaW.PrintWords Go.Proofs.YthfefanapneocaaW.PrintLast Go.Proofs.YthfefanapneocaaW.PrintMore
theorem l01In_eq (a lo hi : Int) : spec_l01In.f a lo hi = some (withinB a lo hi) := by
  unfold spec_l01In.f withinB
  by_cases h : lo ≤ a <;> simp [h]
theorem sIsName_ev (s : ByteArray) (hs : s.size ≤ 4611686018427387903) : Ev (fun k => spec_IsName.f k s) (isNameB s) := by
  refine Ev.eq (Ev.down s.size (fun i k => spec_IsName.l0 k s (i : Int)) (fun i => nameFrom s i && withinB s.size 1 8) ?_ ?_) rfl
  · refine Ev.step (f := fun _ => some (withinB s.size 1 8)) (fun k => by rw [spec_IsName.l0, if_neg (by omega), l01In_eq]; rfl) (Ev.eq (Ev.now _) ?_)
    rw [nameFrom_end s _ (Nat.le_refl _)]
    rfl
  · intro i hi h
    have hw := wrap_succ i (by omega)
    cases hn : nameAt i (bt s i) with
    | true =>
      refine Ev.eq (Ev.step (fun k => ?_) h) (by simp only [nameFrom_step s i hi, hn, Bool.true_and])
      rw [spec_IsName.l0, if_pos (by omega), if_pos (by omega), hw]
      unfold nameAt at hn
      generalize bt s i = c at hn
      grind
    | false =>
      refine Ev.eq (Ev.step (f := fun _ => some false) (fun k => ?_) (Ev.now _)) (by simp only [nameFrom_step s i hi, hn, Bool.false_and])
      rw [spec_IsName.l0, if_pos (by omega), if_pos (by omega), hw]
      unfold nameAt at hn
      generalize bt s i = c at hn
      grind
theorem sTeamOk_ev (t : Team) (hs : t.f0.size ≤ 4611686018427387903) : Ev (fun k => spec_TeamOk.f k t.f0 t.f1 t.f2) (teamOkB t) := by
  unfold spec_TeamOk.f teamOkB
  refine Ev.bind (sIsName_ev _ hs) (Ev.val fun k => ?_)
  simp only [l01In_eq, Option.bind_some]
  cases isNameB t.f0 <;> cases withinB t.f1 0 5 <;> simp
theorem rdTm_eq (l : List Team) (i : Nat) (h : i < l.length) : rd_T139 l (i : Int) = l[i] := by
  unfold rd_T139; simp [h]
theorem sFieldOk_ev (l : List Team) (h : ∀ t, t ∈ l → t.f0.size ≤ 4611686018427387903) : Ev (fun k => spec_FieldOk.f k l) (fieldOkB l) := by
  unfold spec_FieldOk.f fieldOkB
  simp only [l01In_eq, Option.bind_some]
  cases hw : withinB (l.length : Int) 2 8 with
  | false => exact Ev.eq (Ev.val fun k => by rw [if_neg (by decide)]) (by simp)
  | true =>
    have hl : l.length ≤ 8 := by simp [withinB] at hw; omega
    refine Ev.congr (fun k => by rw [if_pos rfl]) ?_
    rw [Bool.and_true]
    refine Ev.eq (Ev.down l.length (fun i k => spec_FieldOk.l0 k l l (l.length : Int) (i : Int)) (fun i => fieldFrom (l.take i) (l.drop i)) ?_ ?_) rfl
    · exact Ev.step (f := fun _ => some true) (fun k => by rw [spec_FieldOk.l0, if_neg (by omega)]) (Ev.eq (Ev.now _) (by rw [List.drop_length]; rfl))
    · intro i hi hn
      rw [List.drop_eq_getElem_cons hi, fieldFrom]
      have ht := sTeamOk_ev l[i] (h _ (List.getElem_mem hi))
      refine Ev.step (f := fun k => (spec_TeamOk.f k l[i].f0 l[i].f1 l[i].f2).bind fun t130 => (if t130 = true then (spec_FieldOk.l1 k l l (l.length : Int) (i : Int) (l.take i) ((l.take i).length : Int) 0 l[i].f0 l[i].f1 l[i].f2) else (some false))) (fun k => ?_) (Ev.bind ht ?_)
      · rw [spec_FieldOk.l0, if_pos (by omega), if_pos (by omega), if_pos (by omega), rdTm_eq l i hi]
        have hc : (i : Int) ≤ (l.length : Int) := by omega
        simp only [if_pos hc, Option.bind_some, Int.toNat_natCast]
      · cases hk : teamOkB l[i] with
        | false => exact Ev.eq (Ev.val fun k => by rw [if_neg (by decide)]) (by simp)
        | true =>
          refine Ev.congr (fun k => by rw [if_pos rfl]) ?_
          rw [List.take_succ_eq_append_getElem hi] at hn
          generalize hp : l.take i = pre at hn
          have hpl : pre.length = i := by rw [← hp, List.length_take]; omega
          rw [Bool.true_and]
          refine Ev.eq (Ev.down pre.length (fun j k => spec_FieldOk.l1 k l l (l.length : Int) (i : Int) pre (pre.length : Int) (j : Int) l[i].f0 l[i].f1 l[i].f2) (fun j => !(pre.drop j).any (teamClash l[i]) && fieldFrom (pre ++ [l[i]]) (l.drop (i + 1))) ?_ ?_) rfl
          · refine Ev.eq (Ev.step (fun k => by rw [spec_FieldOk.l1, if_neg (by omega), wrap_succ i (by omega)]) hn) (by rw [List.drop_length]; simp)
          · intro j hj hnj
            rw [List.drop_eq_getElem_cons hj, List.any_cons]
            by_cases h1 : pre[j].f0.toList = l[i].f0.toList
            · refine Ev.eq (Ev.step (f := fun _ => some false) (fun k => by rw [spec_FieldOk.l1, if_pos (by omega), if_pos (by omega), if_pos (by omega), rdTm_eq pre j hj, if_pos h1]) (Ev.now _)) (by simp [teamClash, h1])
            · by_cases h2 : pre[j].f2 = l[i].f2
              · refine Ev.eq (Ev.step (f := fun _ => some false) (fun k => by rw [spec_FieldOk.l1, if_pos (by omega), if_pos (by omega), if_pos (by omega), rdTm_eq pre j hj, if_neg h1, if_pos h2]) (Ev.now _)) (by simp [teamClash, h2])
              · refine Ev.eq (Ev.step (fun k => by rw [spec_FieldOk.l1, if_pos (by omega), if_pos (by omega), if_pos (by omega), rdTm_eq pre j hj, if_neg h1, if_neg h2, wrap_succ j (by omega)]) hnj) (by rw [show teamClash l[i] pre[j] = false by unfold teamClash; rw [beq_eq_false_iff_ne.mpr h1, beq_eq_false_iff_ne.mpr h2]; rfl, Bool.false_or])
theorem sHas_ev (l : List Int) (x : Int) (hl : l.length ≤ 1048576) : Ev (fun k => spec_l02Has.f k l x) (hasI l x) := by
  refine Ev.eq (Ev.down l.length (fun i k => spec_l02Has.l0 k x l (l.length : Int) (i : Int)) (fun i => hasI (l.drop i) x) ?_ ?_) rfl
  · exact Ev.step (f := fun _ => some false) (fun k => by rw [spec_l02Has.l0, if_neg (by omega)]) (Ev.eq (Ev.now _) (by rw [List.drop_length]; rfl))
  · intro i hi hn
    rw [List.drop_eq_getElem_cons hi]
    by_cases h : l[i] = x
    · exact Ev.eq (Ev.step (f := fun _ => some true) (fun k => by rw [spec_l02Has.l0, if_pos (by omega), if_pos (by omega), if_pos (by omega), rd_eq l i hi, if_pos h]) (Ev.now _)) (by simp [hasI, h])
    · exact Ev.eq (Ev.step (fun k => by rw [spec_l02Has.l0, if_pos (by omega), if_pos (by omega), if_pos (by omega), rd_eq l i hi, if_neg h, wrap_succ i (by omega)]) hn) (by simp only [hasI, List.any_cons, decide_eq_false (show ¬ x = l[i] from fun e => h e.symm), Bool.false_or])
theorem sRulesOk_ev (win draw loss : Int) (l : List Int) (again : Bool) : Ev (fun k => spec_RulesOk.f k win draw loss l again) (rulesOkB win draw loss l) := by
  unfold spec_RulesOk.f rulesOkB
  simp only [l01In_eq, Option.bind_some]
  have fals : ∀ q, q = false → Ev (fun k => spec_RulesOk.j0 k true win draw loss l again) q := fun q hq => Ev.step (f := fun _ => some false) (fun k => by rw [spec_RulesOk.j0, if_pos rfl]) (Ev.eq (Ev.now _) hq.symm)
  by_cases h1 : withinB win 0 10 = true
  · by_cases h2 : withinB draw 0 win = true
    · by_cases h3 : withinB loss 0 draw = true
      · by_cases h4 : withinB l.length 1 8 = true
        · refine Ev.congr (fun k => by rw [if_pos h1, if_pos h2, if_pos h3, h4]) ?_
          have hl : l.length ≤ 8 := by simp [withinB] at h4; omega
          have hr : (ladderFrom [] l && decide (0 ≤ loss) && decide (loss ≤ draw) && decide (draw ≤ win) && decide (win ≤ 10) && true) = ladderFrom [] l := by
            simp [withinB] at h1 h2 h3
            simp [h1, h2, h3]
          rw [h4, hr]
          refine Ev.step (f := fun k => spec_RulesOk.l0 k l (l.length : Int) 0 win draw loss l again) (fun k => by rw [spec_RulesOk.j0, if_neg (by decide)]) ?_
          refine Ev.eq (Ev.down l.length (fun i k => spec_RulesOk.l0 k l (l.length : Int) (i : Int) win draw loss l again) (fun i => ladderFrom (l.take i) (l.drop i)) ?_ ?_) rfl
          · exact Ev.step (f := fun _ => some true) (fun k => by rw [spec_RulesOk.l0, if_neg (by omega)]) (Ev.eq (Ev.now _) (by rw [List.drop_length]; rfl))
          · intro i hi hn
            rw [List.drop_eq_getElem_cons hi, ladderFrom]
            rw [List.take_succ_eq_append_getElem hi] at hn
            cases hk : withinB l[i] 1 8 with
            | false => exact Ev.eq (Ev.step (f := fun _ => some false) (fun k => by rw [spec_RulesOk.l0, if_pos (by omega), if_pos (by omega), if_pos (by omega), rd_eq l i hi, l01In_eq, hk, Option.bind_some, if_neg (by decide)]) (Ev.now _)) (by simp)
            | true =>
              refine Ev.step (f := fun k => (spec_l02Has.f k (l.take i) l[i]).bind fun t => if t = true then some false else spec_RulesOk.l0 k l (l.length : Int) ((i + 1 : Nat) : Int) win draw loss l again) (fun k => by rw [spec_RulesOk.l0, if_pos (by omega), if_pos (by omega), if_pos (by omega), rd_eq l i hi, l01In_eq, hk, Option.bind_some, if_pos rfl, if_pos (by omega), wrap_succ i (by omega), Int.toNat_natCast]) ?_
              refine Ev.bind (sHas_ev _ _ (by rw [List.length_take]; omega)) ?_
              cases hh : hasI (l.take i) l[i] with
              | true => exact Ev.eq (Ev.val fun k => by rw [if_pos rfl]) (by simp)
              | false => exact Ev.eq (Ev.congr (fun k => by rw [if_neg (by decide)]) hn) (by simp)
        · refine Ev.congr (fun k => by rw [if_pos h1, if_pos h2, if_pos h3]) ?_
          simp only [Bool.not_eq_true] at h4
          rw [h4]
          exact fals _ (by simp)
      · refine Ev.congr (fun k => by rw [if_pos h1, if_pos h2, if_neg h3]) (fals _ ?_)
        simp [withinB] at h3
        by_cases h5 : 0 ≤ loss
        · simp [show ¬ loss ≤ draw by omega]
        · simp [h5]
    · refine Ev.congr (fun k => by rw [if_pos h1, if_neg h2]) (fals _ ?_)
      simp [withinB] at h2
      by_cases h5 : 0 ≤ draw
      · simp [show ¬ draw ≤ win by omega]
      · by_cases h6 : 0 ≤ loss
        · simp [show ¬ loss ≤ draw by omega]
        · simp [h6]
  · refine Ev.congr (fun k => by rw [if_neg h1]) (fals _ ?_)
    simp [withinB] at h1
    by_cases h5 : win ≤ 10
    · by_cases h6 : 0 ≤ loss
      · by_cases h7 : loss ≤ draw
        · simp [show ¬ draw ≤ win by omega]
        · simp [h7]
      · simp [h6]
    · simp [h5]
theorem sGameOk_ev (n : Int) (g : Game) : Ev (fun k => spec_GameOk.f k n g.f0 g.f1 g.f2 g.f3 g.f4) (gameOkB n g) := by
  unfold spec_GameOk.f gameOkB
  simp only [l01In_eq, Option.bind_some]
  have fals : ∀ q, q = false → Ev (fun k => spec_GameOk.j0 k true g.f0 g.f1 g.f2 g.f3 g.f4) q := fun q hq => Ev.step (f := fun _ => some false) (fun k => by rw [spec_GameOk.j0, if_pos rfl]) (Ev.eq (Ev.now _) hq.symm)
  by_cases h1 : withinB n 2 8 = true
  · have hw : wrap64 (n - 1) = n - 1 := by
      simp [withinB] at h1
      unfold wrap64; omega
    rw [hw, h1]
    by_cases h2 : withinB g.f0 0 (n - 1) = true
    · by_cases h3 : withinB g.f1 0 (n - 1) = true
      · by_cases h4 : g.f0 = g.f1
        · exact Ev.congr (fun k => by rw [if_pos rfl, if_pos h2, if_pos h3, if_pos h4]) (fals _ (by simp [h4]))
        · by_cases h5 : withinB g.f4 0 4 = true
          · refine Ev.congr (fun k => by rw [if_pos rfl, if_pos h2, if_pos h3, if_neg h4, h5]) ?_
            rw [h2, h3, h5, decide_eq_false h4]
            by_cases h6 : g.f4 = 1
            · refine Ev.step (f := fun _ => some (withinB g.f2 0 99 && withinB g.f3 0 99)) (fun k => ?_) (Ev.eq (Ev.now _) (by simp [h6]))
              rw [spec_GameOk.j0, if_neg (by decide), if_pos h6]
              simp only [l01In_eq, Option.bind_some]
              cases withinB g.f2 0 99 <;> simp
            · refine Ev.step (f := fun _ => some (decide (g.f2 = 0) && decide (g.f3 = 0))) (fun k => ?_) (Ev.eq (Ev.now _) ?_)
              · rw [spec_GameOk.j0, if_neg (by decide), if_neg h6]
                by_cases h7 : g.f2 = 0
                · rw [if_pos h7]; simp [h7]; grind
                · rw [if_neg h7]; simp [h7]
              · rw [if_neg h6]
                unfold withinB
                grind
          · refine Ev.congr (fun k => by rw [if_pos rfl, if_pos h2, if_pos h3, if_neg h4]) ?_
            simp only [Bool.not_eq_true] at h5
            rw [h5]
            exact fals _ (by simp)
      · exact Ev.congr (fun k => by rw [if_pos rfl, if_pos h2, if_neg h3]) (fals _ (by simp [Bool.not_eq_true _ ▸ h3]))
    · exact Ev.congr (fun k => by rw [if_pos rfl, if_neg h2]) (fals _ (by simp [Bool.not_eq_true _ ▸ h2]))
  · exact Ev.congr (fun k => by rw [if_neg h1]) (fals _ (by simp [Bool.not_eq_true _ ▸ h1]))
theorem sGameOf_ev (l : List Game) (h a : Int) (hl : l.length ≤ 1048576) : Ev (fun k => spec_GameOf.f k l h a) (idxI (gameIs h a) l) := by
  have hp : ∀ x : Int, x = -1 → ∀ y, (if y < 0 then (-1 : Int) else y) = (if y < 0 then -1 else y) := fun _ _ _ => rfl
  refine Ev.eq (Ev.down l.length (fun i k => spec_GameOf.l0 k h a l (l.length : Int) (i : Int)) (fun i => if idxI (gameIs h a) (l.drop i) < 0 then -1 else idxI (gameIs h a) (l.drop i) + i) ?_ ?_) ?_
  · exact Ev.step (f := fun _ => some (-1)) (fun k => by rw [spec_GameOf.l0, if_neg (by omega)]) (Ev.eq (Ev.now _) (by rw [List.drop_length]; rfl))
  · intro i hi hn
    rw [List.drop_eq_getElem_cons hi, idxI]
    by_cases h1 : l[i].f0 = h
    · by_cases h2 : l[i].f1 = a
      · exact Ev.eq (Ev.step (f := fun _ => some (i : Int)) (fun k => by rw [spec_GameOf.l0, if_pos (by omega), if_pos (by omega), if_pos (by omega), rdG_eq l i hi, if_pos h1, if_pos h2]) (Ev.now _)) (by simp [gameIs, h1, h2])
      · refine Ev.eq (Ev.step (fun k => by rw [spec_GameOf.l0, if_pos (by omega), if_pos (by omega), if_pos (by omega), rdG_eq l i hi, if_pos h1, if_neg h2, wrap_succ i (by omega)]) hn) ?_
        simp only [gameIs, h1, beq_self_eq_true, beq_eq_false_iff_ne.mpr h2, Bool.true_and, Bool.false_eq_true, if_false]
        generalize idxI (gameIs h a) (l.drop (i + 1)) = y
        grind
    · refine Ev.eq (Ev.step (fun k => by rw [spec_GameOf.l0, if_pos (by omega), if_pos (by omega), if_pos (by omega), rdG_eq l i hi, if_neg h1, wrap_succ i (by omega)]) hn) ?_
      have hg : gameIs h a l[i] = false := by simp [gameIs, h1]
      rw [hg]
      generalize idxI (gameIs h a) (l.drop (i + 1)) = y
      grind
  · show (if idxI (gameIs h a) l < 0 then (-1 : Int) else idxI (gameIs h a) l + ((0 : Nat) : Int)) = _
    have : ∀ l : List Game, idxI (gameIs h a) l = -1 ∨ 0 ≤ idxI (gameIs h a) l := by
      intro l
      induction l with
      | nil => exact .inl rfl
      | cons y l ih => simp only [idxI]; grind
    rcases this l with h3 | h3
    · rw [h3]; rfl
    · rw [if_neg (by omega)]; omega
theorem idx_first {α : Type} (p : α → Bool) (l : List α) (i : Nat) (hi : i < l.length) (h : p l[i] = true) : decide (idxI p l = (i : Int)) = !(l.take i).any p := by
  induction l generalizing i with
  | nil => simp at hi
  | cons x l ih =>
    cases i with
    | zero => simp only [List.getElem_cons_zero] at h; simp [idxI, h]
    | succ i =>
      simp only [List.getElem_cons_succ] at h
      have := ih i (by simpa using hi) h
      simp only [List.take_succ_cons, List.any_cons]
      by_cases hx : p x = true
      · have e1 : idxI p (x :: l) = 0 := by simp only [idxI, hx, if_true]
        rw [hx, Bool.true_or, e1]
        exact decide_eq_false (by omega)
      · simp only [Bool.not_eq_true] at hx
        have h2 : 0 ≤ idxI p l := by
          have := idxI_any p l
          have h3 : l.any p = true := List.any_eq_true.mpr ⟨l[i]'(by simpa using hi), List.getElem_mem _, h⟩
          rw [h3] at this
          simpa using this
        have e : (if p x = true then 0 else if idxI p l < 0 then -1 else idxI p l + 1) = idxI p l + 1 := by
          rw [if_neg (by rw [hx]; decide), if_neg (by omega)]
        have e2 : decide (idxI p l + 1 = ((i + 1 : Nat) : Int)) = decide (idxI p l = (i : Int)) := decide_eq_decide.mpr (by omega)
        have e3 : decide (idxI p (x :: l) = ((i + 1 : Nat) : Int)) = decide (idxI p l + 1 = ((i + 1 : Nat) : Int)) := decide_eq_decide.mpr (by rw [show idxI p (x :: l) = idxI p l + 1 from e])
        rw [hx, Bool.false_or, ← this, ← e2]
        exact e3
theorem sSeasonOk_ev (n : Int) (l : List Game) : Ev (fun k => spec_SeasonOk.f k n l) (seasonOkB n l) := by
  unfold spec_SeasonOk.f seasonOkB
  by_cases hl : (l.length : Int) > 60
  · exact Ev.eq (Ev.val fun k => by rw [if_pos hl]) (by simp; intro _; omega)
  · refine Ev.congr (fun k => by rw [if_neg hl]) ?_
    rw [decide_eq_true (show (l.length : Int) ≤ 60 by omega), Bool.and_true]
    refine Ev.eq (Ev.down l.length (fun i k => spec_SeasonOk.l0 k n l l (l.length : Int) (i : Int)) (fun i => seasonFrom n (l.take i) (l.drop i)) ?_ ?_) rfl
    · exact Ev.step (f := fun _ => some true) (fun k => by rw [spec_SeasonOk.l0, if_neg (by omega)]) (Ev.eq (Ev.now _) (by rw [List.drop_length]; rfl))
    · intro i hi hn
      rw [List.drop_eq_getElem_cons hi, seasonFrom]
      rw [List.take_succ_eq_append_getElem hi] at hn
      refine Ev.step (f := fun k => (spec_GameOk.f k n l[i].f0 l[i].f1 l[i].f2 l[i].f3 l[i].f4).bind fun t158 => (if t158 = true then ((spec_GameOf.f k l l[i].f0 l[i].f1).bind fun t159 => (if t159 = (i : Int) then (spec_SeasonOk.l0 k n l l (l.length : Int) ((i + 1 : Nat) : Int)) else (some false))) else (some false))) (fun k => by rw [spec_SeasonOk.l0, if_pos (by omega), if_pos (by omega), if_pos (by omega), rdG_eq l i hi, wrap_succ i (by omega)]) ?_
      refine Ev.bind (sGameOk_ev n l[i]) ?_
      cases hg : gameOkB n l[i] with
      | false => exact Ev.eq (Ev.val fun k => by rw [if_neg (by decide)]) (by simp)
      | true =>
        refine Ev.congr (fun k => by rw [if_pos rfl]) (Ev.bind (sGameOf_ev l _ _ (by omega)) ?_)
        have hf := idx_first (gameIs l[i].f0 l[i].f1) l i hi (by simp [gameIs])
        by_cases he : idxI (gameIs l[i].f0 l[i].f1) l = (i : Int)
        · rw [decide_eq_true he] at hf
          exact Ev.eq (Ev.congr (fun k => by rw [if_pos he]) hn) (by rw [← hf]; simp)
        · rw [decide_eq_false he] at hf
          exact Ev.eq (Ev.val fun k => by rw [if_neg he]) (by rw [← hf]; simp)
theorem sBookOk_ev (field : List Team) (win draw loss : Int) (ladder : List Int) (again : Bool) (games : List Game) (fair taken : List Int) (hs : ∀ t, t ∈ field → t.f0.size ≤ 4611686018427387903) :
    Ev (fun k => spec_BookOk.f k field win draw loss ladder again games fair taken) (bookOkB field win draw loss ladder games fair taken) := by
  unfold spec_BookOk.f bookOkB
  have fals : ∀ q, q = false → Ev (fun k => spec_BookOk.j0 k true field win draw loss ladder again games fair taken) q := fun q hq => Ev.step (f := fun _ => some false) (fun k => by rw [spec_BookOk.j0, if_pos rfl]) (Ev.eq (Ev.now _) hq.symm)
  refine Ev.bind (sFieldOk_ev field hs) ?_
  cases h1 : fieldOkB field with
  | false => exact Ev.congr (fun k => by rw [if_neg (by decide)]) (fals _ (by simp))
  | true =>
    have hfl : field.length ≤ 8 := by
      unfold fieldOkB at h1
      simp [withinB] at h1
      omega
    refine Ev.congr (fun k => by rw [if_pos rfl]) (Ev.bind (sRulesOk_ev _ _ _ _ _) ?_)
    cases h2 : rulesOkB win draw loss ladder with
    | false => exact Ev.congr (fun k => by rw [if_neg (by decide)]) (fals _ (by simp))
    | true =>
      refine Ev.congr (fun k => by rw [if_pos rfl]) (Ev.bind (sSeasonOk_ev _ _) ?_)
      cases h3 : seasonOkB field.length games with
      | false => exact Ev.congr (fun k => by rw [if_neg (by decide)]) (fals _ (by simp))
      | true =>
        by_cases h4 : (fair.length : Int) = (field.length : Int)
        · by_cases h5 : (taken.length : Int) = (field.length : Int)
          · refine Ev.congr (f := fun k => spec_BookOk.j0 k false field win draw loss ladder again games fair taken) (fun k => by rw [if_pos rfl, if_pos h4, show ((taken.length : Int) != (field.length : Int)) = false by simp; omega]) ?_
            refine Ev.step (f := fun k => spec_BookOk.l0 k (field.length : Int) 0 field win draw loss ladder again games fair taken) (fun k => by rw [spec_BookOk.j0, if_neg (by decide)]) ?_
            refine Ev.eq (Ev.down field.length (fun i k => spec_BookOk.l0 k (field.length : Int) (i : Int) field win draw loss ladder again games fair taken) (fun i => !(fair.drop i).any (fun x => !withinB x 0 1000) && !(taken.drop i).any (fun x => !withinB x 0 1000)) ?_ ?_) ?_
            · exact Ev.step (f := fun _ => some true) (fun k => by rw [spec_BookOk.l0, if_neg (by omega)]) (Ev.eq (Ev.now _) (by rw [List.drop_eq_nil_of_le (by omega), List.drop_eq_nil_of_le (by omega)]; rfl))
            · intro i hi hn
              rw [List.drop_eq_getElem_cons (show i < fair.length by omega), List.drop_eq_getElem_cons (show i < taken.length by omega)]
              cases ha : withinB fair[i] 0 1000 with
              | false => exact Ev.eq (Ev.step (f := fun _ => some false) (fun k => by rw [spec_BookOk.l0, if_pos (by omega), if_pos (by omega), if_pos (by omega), rd_eq fair i (by omega), l01In_eq, ha, Option.bind_some, if_neg (by decide)]) (Ev.now _)) (by rw [List.any_cons, List.any_cons, ha]; rfl)
              | true =>
                cases hb : withinB taken[i] 0 1000 with
                | false => exact Ev.eq (Ev.step (f := fun _ => some false) (fun k => by rw [spec_BookOk.l0, if_pos (by omega), if_pos (by omega), if_pos (by omega), rd_eq fair i (by omega), l01In_eq, ha, Option.bind_some, if_pos rfl, if_pos (by omega), rd_eq taken i (by omega), l01In_eq, hb, Option.bind_some, if_neg (by decide)]) (Ev.now _)) (by rw [List.any_cons, List.any_cons, ha, hb]; exact Bool.and_false _ |>.symm)
                | true => exact Ev.eq (Ev.step (fun k => by rw [spec_BookOk.l0, if_pos (by omega), if_pos (by omega), if_pos (by omega), rd_eq fair i (by omega), l01In_eq, ha, Option.bind_some, if_pos rfl, if_pos (by omega), rd_eq taken i (by omega), l01In_eq, hb, Option.bind_some, if_pos rfl, wrap_succ i (by omega)]) hn) (by rw [List.any_cons, List.any_cons, ha, hb]; exact (by simp))
            · simp [penaltiesB, h4, h5]
          · refine Ev.congr (f := fun k => spec_BookOk.j0 k true field win draw loss ladder again games fair taken) (fun k => by rw [if_pos rfl, if_pos h4, show ((taken.length : Int) != (field.length : Int)) = true by simp; omega]) (fals _ (by simp [penaltiesB, h5]))
        · exact Ev.congr (fun k => by rw [if_pos rfl, if_neg h4]) (fals _ (by simp [penaltiesB, h4]))
end Go.Proofs.Ythfefanapneocaa.Q
namespace Go.Proofs.Ythfefanapneocaa.Q
open Go.RowKit Go.Proofs.YthfefanapneocaaW.PrintWords Go.Proofs.YthfefanapneocaaW.PrintLast Go.Proofs.YthfefanapneocaaW.PrintMore
section
variable (F : List Team) (w d s : Int) (L : List Int) (ag : Bool) (fa ta : List Int)
theorem iCopied_eq (G : List Game) (h1 : F.length ≤ 1048576) (h2 : L.length ≤ 1048576) (h3 : G.length ≤ 1048576) (h4 : fa.length ≤ 1048576) (h5 : ta.length ≤ 1048576) : impl_Book_copied.f F w d s L ag G fa ta = some (F, w, d, s, L, ag, G, fa, ta) := by
  unfold impl_Book_copied.f slices_Clone_impl_Team_impl_Team.f slices_Clone_impl_Game_impl_Game.f slices_Clone_int_int.f
  simp only [Option.bind_some, List.length_nil, List.nil_append]
  rw [if_pos (by omega), Option.bind_some, if_pos (by omega), Option.bind_some, if_pos (by omega), Option.bind_some, if_pos (by omega), Option.bind_some, if_pos (by omega), Option.bind_some]
theorem sCopy_eq (G : List Game) (h1 : F.length ≤ 1048576) (h2 : L.length ≤ 1048576) (h3 : G.length ≤ 1048576) (h4 : fa.length ≤ 1048576) (h5 : ta.length ≤ 1048576) : spec_l16Copy.f F w d s L ag G fa ta = some (F, w, d, s, L, ag, G, fa, ta) := by
  unfold spec_l16Copy.f
  simp only [Option.bind_some, List.length_nil, List.nil_append]
  rw [if_pos (by omega), if_pos (by omega), if_pos (by omega), if_pos (by omega), if_pos (by omega)]
end
end Go.Proofs.Ythfefanapneocaa.Q
namespace Go.Proofs.Ythfefanapneocaa.Q
open Go.RowKit Go.Proofs.YthfefanapneocaaW.PrintWords Go.Proofs.YthfefanapneocaaW.PrintLast Go.Proofs.YthfefanapneocaaW.PrintMore
theorem seasonFrom_mem (n : Int) (l : List Game) : ∀ pre, seasonFrom n pre l = true → ∀ g ∈ l, gameOkB n g = true := by
  induction l with
  | nil => intro _ _ g hg; cases hg
  | cons x l ih =>
    intro pre h g hg
    rw [seasonFrom, Bool.and_eq_true, Bool.and_eq_true] at h
    rcases List.mem_cons.mp hg with rfl | hg
    · exact h.1.1
    · exact ih _ h.2 g hg
theorem gameOk_ne {n : Int} {g : Game} (h : gameOkB n g = true) : g.f0 ≠ g.f1 := by
  unfold gameOkB at h
  simp only [Bool.and_eq_true, Bool.not_eq_true', decide_eq_false_iff_not] at h
  exact h.1.1.1.1.1.2
theorem iPlays_eq (g : Game) (t : Int) : impl_plays.f g.f0 g.f1 g.f2 g.f3 g.f4 t = some (decide (g.f0 = t ∨ g.f1 = t)) := by
  unfold impl_plays.f
  by_cases h : g.f0 = t
  · rw [if_pos h, decide_eq_true (Or.inl h)]
  · by_cases h1 : g.f1 = t
    · rw [if_neg h, decide_eq_true (Or.inr h1), h1, beq_self_eq_true]
    · rw [if_neg h, decide_eq_false (by simp [h, h1])]
      simp [h1]
end Go.Proofs.Ythfefanapneocaa.Q
