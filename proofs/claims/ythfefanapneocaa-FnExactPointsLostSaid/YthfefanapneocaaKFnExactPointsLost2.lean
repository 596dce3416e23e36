/- A part of the proof of FnExactPointsLost: functions of the program, as plain functions, with the proof that the machine's call does what they say; plain lemmas; and those of the words that print.sh prints which this proof uses. No condition. -/
import Derived.Test.YthfefanapneocaaKFnExactPointsLost1
import Derived.Test.YthfefanapneocaaProg
import Derived.Below
import Derived.Deep.Draws
import Derived.Deep.AppendLies
import Derived.Maps.AppendAt
import Derived.OwnWalk
import Derived.Laws.BytesArg
import Derived.Laws.MakeOwn
import Derived.Laws.OwnMore
import Derived.Deep.OwnRows
import Derived.Tactics
import Derived.Lib.ConvBytes
import Derived.Laws.Slices
import Derived.WalkKit
import Derived.KernelRfl
import Derived.RowKit3
import Derived.Deep.LoopGhost
import Derived.Deep.QuietTactic
import Derived.BigQuiet
import Derived.WideLaws
import Derived.Deep.DeepCutAuto
import Derived.Deep.CutBlock
import Derived.Deep.RegionHeld3
import Derived.Laws.Rows
import Derived.Lib.AppendStr
import Derived.ArgAppend
import Derived.Laws.IdiomCopy
import Derived.OrdersHeld
import Derived.Laws.BitsLemmas
import Derived.RowKit
import Derived.WalkSpells
import Derived.Shelf.Strings.Builder1
import Derived.Shelf.Strings.Builder2
import Derived.Shelf.Small.Bits
import Derived.Shelf.Strconv.Itoa0
import Derived.Ground.Names2Prog
import Derived.Shelf.Slices.Clone
import Derived.Shelf.Slices.SearchI
import Derived.Ground.SlgnProg
import Derived.Shelf.SlicesE.Clone
import Derived.Lib.AppendIntMem
import Derived.Laws.StructEq
namespace Go.Proofs.Ythfefanapneocaa.Q
open Go.RowKit Go.Proofs.YthfefanapneocaaW.PrintWords Go.Proofs.YthfefanapneocaaW.PrintLast Go.Proofs.YthfefanapneocaaW.PrintMore
attribute [local go_sem] max2_int min2_int max_two min_two max_three min_three max_four min_four
set_option linter.unusedVariables false
set_option linter.unusedSimpArgs false
set_option maxRecDepth 100000
set_option maxHeartbeats 8000000
def laws_eqIntS.l0 : Nat → List Int → List Int → Int → Option (Bool)
 | 0, _, _, _ => none
 | k + 1, x0, x1, x5 => if x5 < (x0.length : Int) then (if 0 ≤ x5 then (if x5 < (x1.length : Int) then (if (rd x0 x5) = (rd x1 x5) then (laws_eqIntS.l0 k x0 x1 (wrap64 (x5 + 1))) else (some false)) else (none)) else (none)) else (some true)
def laws_eqIntS.f (k : Nat) (l0 : List Int) (l1 : List Int) : Option (Bool) := if (l0.length : Int) = (l1.length : Int) then (laws_eqIntS.l0 k l0 l1 0) else (some false)
theorem laws_eqIntS.calls (k : Nat) (A0 : Option Addr) (c0 : Nat) (l0 : List Int) (A1 : Option Addr) (c1 : Nat) (l1 : List Int) (r : Bool) (w : World) (hr0 : Kd.C (Kd.int .i64) w A0 l0.length l0) (hc0 : l0.length ≤ c0) (hr1 : Kd.C (Kd.int .i64) w A1 l1.length l1) (hc1 : l1.length ≤ c1) (h : laws_eqIntS.f k l0 l1 = some r) :
  Calls Try.prog 28 #[.slice A0 l0.length c0, .slice A1 l1.length c1] w fun e w' => e = .returned (.bool r) ∧ Drawn0 w w' := by
 have HR0 := dk hr0
 have HC0 := dk hc0
 clear hr0 hc0
 have HR1 := dk hr1
 have HC1 := dk hc1
 clear hr1 hc1
 have H : (if (l0.length : Int) = (l1.length : Int) then (laws_eqIntS.l0 k l0 l1 0) else (some false)) = some r := h
 clear h
 by_cases c3 : (l0.length : Int) = (l1.length : Int)
 ·rw [if_pos c3] at H
  have c3b0 : ((l0.length : Int) == (l1.length : Int)) = true := beq_iff_eq.mpr c3
  have c3b1 : ((l0.length : Int) != (l1.length : Int)) = false := bne_eq_false_iff_eq.mpr c3
  have c3b2 : (l0.length == l1.length) = true := by first | simpa using c3 | (simp at c3 ⊢; omega)
  clear c3
  have H' := dk H
  clear H
  go_enter Try.func28, Try.ntmps28
  go_wp2
  repeat (go_quiet (fail); try go_wp2)
  go_loopg [5] k (fun kq v5 w' => ∃ (x5_1 : Int), v5 = .int .i64 x5_1 ∧ Aside0 (laws_eqIntS.l0 kq l0 l1 x5_1 = some r) ∧ Aside0 (kq ≤ k) ∧ Drawn0 w w')
  case atStart => exact ⟨(0), e2_, H', ⟨Nat.le_refl _⟩, by repeat (first | exact Drawn0.refl _ | apply Drawn0.step)⟩
  case round =>
   clear H'
   (try clear c1)
   (try clear c2)
   (try clear p2)
   (try clear c3)
   (try clear c3b0)
   (try clear c3b1)
   (try clear c3b2)
   obtain ⟨x5_1, rfl, HA, HK1, ⟨m1, rfl⟩⟩ := hrel
   cases gk with
   | zero => exact absurd HA.out (by simp [laws_eqIntS.l0])
   | succ k1 =>
    have H := HA.out
    clear HA
    simp only [laws_eqIntS.l0] at H
    by_cases c4 : x5_1 < (l0.length : Int)
    ·rw [if_pos c4] at H
     have c4b0 : decide (x5_1 < (l0.length : Int)) = true := decide_eq_true c4
     clear c4
     by_cases c5 : 0 ≤ x5_1
     ·rw [if_pos c5] at H
      have c5b0 : decide (0 ≤ x5_1) = true := decide_eq_true c5
      clear c5
      by_cases c6 : x5_1 < (l1.length : Int)
      ·rw [if_pos c6] at H
       have c6b0 : decide (x5_1 < (l1.length : Int)) = true := decide_eq_true c6
       clear c6
       by_cases c7 : (rd l0 x5_1) = (rd l1 x5_1)
       ·rw [if_pos c7] at H
        have c7b0 : ((rd l0 x5_1) == (rd l1 x5_1)) = true := beq_iff_eq.mpr c7
        have c7b1 : ((rd l0 x5_1) != (rd l1 x5_1)) = false := bne_eq_false_iff_eq.mpr c7
        clear c7
        have H' := dk H
        clear H
        have p419 : 0 ≤ (x5_1 : Int) := oa
        have q419 : x5_1 < (l0.length : Int) := oa
        obtain ⟨ad419, e419, hx419_0⟩ := Kd.at_int HR0.out x5_1 p419 q419
        cases e419
        replace p419 := eq_true p419
        replace q419 := eq_true q419
        have p420 : 0 ≤ (x5_1 : Int) := oa
        have q420 : x5_1 < (l1.length : Int) := oa
        obtain ⟨ad420, e420, hx420_0⟩ := Kd.at_int HR1.out x5_1 p420 q420
        cases e420
        replace p420 := eq_true p420
        replace q420 := eq_true q420
        go_wp2
        repeat (go_quiet (fail); try go_wp2)
        go_roundg k1
        case measure => have := HK1.out; omega
        case rel => exact ⟨(wrap64 (x5_1 + 1)), e2_, H', ⟨by have := HK1.out; omega⟩, by repeat (first | exact Drawn0.refl _ | apply Drawn0.step)⟩
       ·rw [if_neg c7] at H
        have c7b0 : ((rd l0 x5_1) == (rd l1 x5_1)) = false := beq_eq_false_iff_ne.mpr c7
        have c7b1 : ((rd l0 x5_1) != (rd l1 x5_1)) = true := bne_iff_ne.mpr c7
        obtain rfl := Option.some.inj H
        have p419 : 0 ≤ (x5_1 : Int) := oa
        have q419 : x5_1 < (l0.length : Int) := oa
        obtain ⟨ad419, e419, hx419_0⟩ := Kd.at_int HR0.out x5_1 p419 q419
        cases e419
        replace p419 := eq_true p419
        replace q419 := eq_true q419
        have p420 : 0 ≤ (x5_1 : Int) := oa
        have q420 : x5_1 < (l1.length : Int) := oa
        obtain ⟨ad420, e420, hx420_0⟩ := Kd.at_int HR1.out x5_1 p420 q420
        cases e420
        replace p420 := eq_true p420
        replace q420 := eq_true q420
        go_wp2
        repeat (go_quiet (fail); try go_wp2)
        go_ret
        exact ⟨e2_, by repeat (first | exact Drawn0.refl _ | apply Drawn0.step)⟩
      ·rw [if_neg c6] at H
       exact absurd H (by simp)
     ·rw [if_neg c5] at H
      exact absurd H (by simp)
    ·rw [if_neg c4] at H
     have c4b0 : decide (x5_1 < (l0.length : Int)) = false := decide_eq_false c4
     clear c4
     obtain rfl := Option.some.inj H
     go_wp2
     repeat (go_quiet (fail); try go_wp2)
     go_ret
     exact ⟨e2_, by repeat (first | exact Drawn0.refl _ | apply Drawn0.step)⟩
 ·rw [if_neg c3] at H
  have c3b0 : ((l0.length : Int) == (l1.length : Int)) = false := beq_eq_false_iff_ne.mpr c3
  have c3b1 : ((l0.length : Int) != (l1.length : Int)) = true := bne_iff_ne.mpr c3
  have c3b2 : (l0.length == l1.length) = false := by first | simpa using c3 | (simp at c3 ⊢; omega)
  obtain rfl := Option.some.inj H
  go_enter Try.func28, Try.ntmps28
  go_wp2
  repeat (go_quiet (fail); try go_wp2)
  go_ret
  exact ⟨e2_, by repeat (first | exact Drawn0.refl _ | apply Drawn0.step)⟩
def laws_eqTeam.f (a0_0 : ByteArray) (a0_1 : Int) (a0_2 : Int) (a1_0 : ByteArray) (a1_1 : Int) (a1_2 : Int) : Option (Bool) := if a0_0.toList = a1_0.toList then (if a0_1 = a1_1 then (if a0_2 = a1_2 then (some true) else (some false)) else (some false)) else (some false)
theorem laws_eqTeam.calls (a0_0 : ByteArray) (a0_1 : Int) (a0_2 : Int) (a1_0 : ByteArray) (a1_1 : Int) (a1_2 : Int) (r : Bool) (w : World) (h : laws_eqTeam.f a0_0 a0_1 a0_2 a1_0 a1_1 a1_2 = some r) :
  Calls Try.prog 117 #[.agg #[.string a0_0, .int .i64 a0_1, .int .i64 a0_2], .agg #[.string a1_0, .int .i64 a1_1, .int .i64 a1_2]] w fun e w' => e = .returned (.bool r) ∧ Below w.heap.size w w' := by
 have hu139 := Try.underlying139
 have HB := dk (Below.refl w.heap.size w)
 have H : (if a0_0.toList = a1_0.toList then (if a0_1 = a1_1 then (if a0_2 = a1_2 then (some true) else (some false)) else (some false)) else (some false)) = some r := h
 clear h
 by_cases c3 : a0_0.toList = a1_0.toList
 ·rw [if_pos c3] at H
  have c3b0 : (a0_0.toList == a1_0.toList) = true := beq_iff_eq.mpr c3
  have c3b1 : (a0_0.toList != a1_0.toList) = false := bne_eq_false_iff_eq.mpr c3
  clear c3
  by_cases c4 : a0_1 = a1_1
  ·rw [if_pos c4] at H
   have c4b0 : (a0_1 == a1_1) = true := beq_iff_eq.mpr c4
   have c4b1 : (a0_1 != a1_1) = false := bne_eq_false_iff_eq.mpr c4
   clear c4
   by_cases c5 : a0_2 = a1_2
   ·rw [if_pos c5] at H
    have c5b0 : (a0_2 == a1_2) = true := beq_iff_eq.mpr c5
    have c5b1 : (a0_2 != a1_2) = false := bne_eq_false_iff_eq.mpr c5
    clear c5
    obtain rfl := Option.some.inj H
    go_enter Try.func117, Try.ntmps117
    go_wp2_with (first | ((with_reducible refine gate_dst (N := 2) rfl ?_); refine bx (N := 2) (cs := #[.string a0_0, .int .i64 a0_1, .int .i64 a0_2]) (t := 139) ?_; intro gb421 hg w6 hbox hb; have BK421 := dk (hbox); have GW421 := gs hg HB; have GE421 := gs hg HB; replace HB := hs_ HB hb; clear hb hbox hg) | ((with_reducible refine gate_dst (N := 3) rfl ?_); refine bx (N := 3) (cs := #[.string a1_0, .int .i64 a1_1, .int .i64 a1_2]) (t := 139) ?_; intro gb422 hg w7 hbox hb; have BK422 := dk (hbox); have GW422 := gs hg HB; have GE422 := gs hg HB; replace HB := hs_ HB hb; have NB421_422 := gn hg BK421; have NB422_421 := gm hg BK421; replace BK421 := kb BK421 hb; clear hb hbox hg; have hnb8 := NB421_422.out; have hnc8 := NB422_421.out; have ⟨z9_0, z9_1, z9_2, v9_0, v9_1, v9_2⟩ := rz3 BK421; have ⟨z10_0, z10_1, z10_2, v10_0, v10_1, v10_2⟩ := rz3 BK422))
    go_ret
    exact ⟨ee, bb HB⟩
   ·rw [if_neg c5] at H
    have c5b0 : (a0_2 == a1_2) = false := beq_eq_false_iff_ne.mpr c5
    have c5b1 : (a0_2 != a1_2) = true := bne_iff_ne.mpr c5
    obtain rfl := Option.some.inj H
    go_enter Try.func117, Try.ntmps117
    go_wp2_with (first | ((with_reducible refine gate_dst (N := 2) rfl ?_); refine bx (N := 2) (cs := #[.string a0_0, .int .i64 a0_1, .int .i64 a0_2]) (t := 139) ?_; intro gb421 hg w11 hbox hb; have BK421 := dk (hbox); have GW421 := gs hg HB; have GE421 := gs hg HB; replace HB := hs_ HB hb; clear hb hbox hg) | ((with_reducible refine gate_dst (N := 3) rfl ?_); refine bx (N := 3) (cs := #[.string a1_0, .int .i64 a1_1, .int .i64 a1_2]) (t := 139) ?_; intro gb422 hg w12 hbox hb; have BK422 := dk (hbox); have GW422 := gs hg HB; have GE422 := gs hg HB; replace HB := hs_ HB hb; have NB421_422 := gn hg BK421; have NB422_421 := gm hg BK421; replace BK421 := kb BK421 hb; clear hb hbox hg; have hnb13 := NB421_422.out; have hnc13 := NB422_421.out; have ⟨z14_0, z14_1, z14_2, v14_0, v14_1, v14_2⟩ := rz3 BK421; have ⟨z15_0, z15_1, z15_2, v15_0, v15_1, v15_2⟩ := rz3 BK422))
    go_ret
    exact ⟨ee, bb HB⟩
  ·rw [if_neg c4] at H
   have c4b0 : (a0_1 == a1_1) = false := beq_eq_false_iff_ne.mpr c4
   have c4b1 : (a0_1 != a1_1) = true := bne_iff_ne.mpr c4
   obtain rfl := Option.some.inj H
   go_enter Try.func117, Try.ntmps117
   go_wp2_with (first | ((with_reducible refine gate_dst (N := 2) rfl ?_); refine bx (N := 2) (cs := #[.string a0_0, .int .i64 a0_1, .int .i64 a0_2]) (t := 139) ?_; intro gb421 hg w16 hbox hb; have BK421 := dk (hbox); have GW421 := gs hg HB; have GE421 := gs hg HB; replace HB := hs_ HB hb; clear hb hbox hg) | ((with_reducible refine gate_dst (N := 3) rfl ?_); refine bx (N := 3) (cs := #[.string a1_0, .int .i64 a1_1, .int .i64 a1_2]) (t := 139) ?_; intro gb422 hg w17 hbox hb; have BK422 := dk (hbox); have GW422 := gs hg HB; have GE422 := gs hg HB; replace HB := hs_ HB hb; have NB421_422 := gn hg BK421; have NB422_421 := gm hg BK421; replace BK421 := kb BK421 hb; clear hb hbox hg; have hnb18 := NB421_422.out; have hnc18 := NB422_421.out; have ⟨z19_0, z19_1, z19_2, v19_0, v19_1, v19_2⟩ := rz3 BK421; have ⟨z20_0, z20_1, z20_2, v20_0, v20_1, v20_2⟩ := rz3 BK422))
   go_ret
   exact ⟨ee, bb HB⟩
 ·rw [if_neg c3] at H
  have c3b0 : (a0_0.toList == a1_0.toList) = false := beq_eq_false_iff_ne.mpr c3
  have c3b1 : (a0_0.toList != a1_0.toList) = true := bne_iff_ne.mpr c3
  obtain rfl := Option.some.inj H
  go_enter Try.func117, Try.ntmps117
  go_wp2_with (first | ((with_reducible refine gate_dst (N := 2) rfl ?_); refine bx (N := 2) (cs := #[.string a0_0, .int .i64 a0_1, .int .i64 a0_2]) (t := 139) ?_; intro gb421 hg w21 hbox hb; have BK421 := dk (hbox); have GW421 := gs hg HB; have GE421 := gs hg HB; replace HB := hs_ HB hb; clear hb hbox hg) | ((with_reducible refine gate_dst (N := 3) rfl ?_); refine bx (N := 3) (cs := #[.string a1_0, .int .i64 a1_1, .int .i64 a1_2]) (t := 139) ?_; intro gb422 hg w22 hbox hb; have BK422 := dk (hbox); have GW422 := gs hg HB; have GE422 := gs hg HB; replace HB := hs_ HB hb; have NB421_422 := gn hg BK421; have NB422_421 := gm hg BK421; replace BK421 := kb BK421 hb; clear hb hbox hg; have hnb23 := NB421_422.out; have hnc23 := NB422_421.out; have ⟨z24_0, z24_1, z24_2, v24_0, v24_1, v24_2⟩ := rz3 BK421; have ⟨z25_0, z25_1, z25_2, v25_0, v25_1, v25_2⟩ := rz3 BK422))
  go_ret
  exact ⟨ee, bb HB⟩
def laws_eqTeamS.l0 : Nat → List (S139) → List (S139) → Int → Option (Bool)
 | 0, _, _, _ => none
 | k + 1, x0, x1, x5 => if x5 < (x0.length : Int) then (if 0 ≤ x5 then (if x5 < (x1.length : Int) then ((laws_eqTeam.f ((rd_T139 x0 x5).f0) ((rd_T139 x0 x5).f1) ((rd_T139 x0 x5).f2) ((rd_T139 x1 x5).f0) ((rd_T139 x1 x5).f1) ((rd_T139 x1 x5).f2)).bind fun t425 => (if t425 = true then (laws_eqTeamS.l0 k x0 x1 (wrap64 (x5 + 1))) else (some false))) else (none)) else (none)) else (some true)
def laws_eqTeamS.f (k : Nat) (l0 : List (S139)) (l1 : List (S139)) : Option (Bool) := if (l0.length : Int) = (l1.length : Int) then (laws_eqTeamS.l0 k l0 l1 0) else (some false)
def laws_eqTeamS.T6 : Bool × List (List Nat × List Nat) := (true, [([], []), ([], []), ([0, 1], [0, 1]), ([2], [2]), ([], []), ([], []), ([4, 5], [4, 5]), ([6], [6]), ([3, 7], [3, 7]), ([8], [8])])
def laws_eqTeamS.B6 : List Nat := [0, 0, 3, 7, 0, 0, 48, 112, 255, 511]
theorem laws_eqTeamS.tab6 : rtab .any (opsOf Try.f50 6) = laws_eqTeamS.T6 := by kernel_rfl
theorem laws_eqTeamS.bits6 : waitsOk laws_eqTeamS.T6.2 laws_eqTeamS.B6 = true := by kernel_rfl
theorem laws_eqTeamS.calls (k : Nat) (A0 : Option Addr) (c0 : Nat) (l0 : List (S139)) (A1 : Option Addr) (c1 : Nat) (l1 : List (S139)) (r : Bool) (w : World) (hr0 : Kd.C k139 w A0 l0.length l0) (hc0 : l0.length ≤ c0) (hr1 : Kd.C k139 w A1 l1.length l1) (hc1 : l1.length ≤ c1) (h : laws_eqTeamS.f k l0 l1 = some r) :
  Calls Try.prog 50 #[.slice A0 l0.length c0, .slice A1 l1.length c1] w fun e w' => e = .returned (.bool r) ∧ Below w.heap.size w w' := by
 have hu139 := Try.underlying139
 have HR0 := dk hr0
 have HC0 := dk hc0
 clear hr0 hc0
 have HR1 := dk hr1
 have HC1 := dk hc1
 clear hr1 hc1
 have HB := dk (Below.refl w.heap.size w)
 have H : (if (l0.length : Int) = (l1.length : Int) then (laws_eqTeamS.l0 k l0 l1 0) else (some false)) = some r := h
 clear h
 by_cases c3 : (l0.length : Int) = (l1.length : Int)
 ·rw [if_pos c3] at H
  have c3b0 : ((l0.length : Int) == (l1.length : Int)) = true := beq_iff_eq.mpr c3
  have c3b1 : ((l0.length : Int) != (l1.length : Int)) = false := bne_eq_false_iff_eq.mpr c3
  have c3b2 : (l0.length == l1.length) = true := by first | simpa using c3 | (simp at c3 ⊢; omega)
  clear c3
  have H' := dk H
  clear H
  go_enter Try.func50, Try.ntmps50
  go_wp2
  go_loopg [5] k (fun kq v5 w' => ∃ (x5_1 : Int), v5 = .int .i64 x5_1 ∧ Aside0 (laws_eqTeamS.l0 kq l0 l1 x5_1 = some r) ∧ Aside0 (kq ≤ k) ∧ Aside0 (Below w.heap.size w w'))
  case atStart => exact ⟨(0), e2_, H', ⟨Nat.le_refl _⟩, ⟨bb HB⟩⟩
  case round =>
   clear H'
   (try clear c1)
   (try clear p2)
   (try clear c3)
   (try clear c3b0)
   (try clear c3b1)
   (try clear c3b2)
   obtain ⟨x5_1, rfl, HA, HK1, HB⟩ := hrel
   cases gk with
   | zero => exact absurd HA.out (by simp [laws_eqTeamS.l0])
   | succ k1 =>
    have H := HA.out
    clear HA
    simp only [laws_eqTeamS.l0] at H
    by_cases c4 : x5_1 < (l0.length : Int)
    ·rw [if_pos c4] at H
     have c4b0 : decide (x5_1 < (l0.length : Int)) = true := decide_eq_true c4
     clear c4
     by_cases c5 : 0 ≤ x5_1
     ·rw [if_pos c5] at H
      have c5b0 : decide (0 ≤ x5_1) = true := decide_eq_true c5
      clear c5
      by_cases c6 : x5_1 < (l1.length : Int)
      ·rw [if_pos c6] at H
       have c6b0 : decide (x5_1 < (l1.length : Int)) = true := decide_eq_true c6
       clear c6
       replace H := Option.bind_eq_some_iff.mp H
       obtain ⟨t425, A70, H⟩ := H
       try dsimp only at H
       have A7 := dk A70
       clear A70
       by_cases c8 : t425 = true
       ·subst c8
        rw [if_pos rfl] at H
        have H' := dk H
        clear H
        try go_wp2
        replace HB := dk (below_drew1 HB.out)
        have p423 : 0 ≤ (x5_1 : Int) := oa
        have q423 : x5_1 < (l0.length : Int) := oa
        obtain ⟨ad423, e423, hx423_0, hx423_1, hx423_2⟩ := at_T139 HR0.out x5_1 p423 q423
        have hw423_2 := hx423_2
        have hw423_1 := hx423_1
        have hw423_0 := hx423_0
        cases e423
        replace hx423_0 := hc HB hx423_0
        replace hx423_1 := hc HB hx423_1
        replace hx423_2 := hc HB hx423_2
        replace p423 := eq_true p423
        replace q423 := eq_true q423
        have p424 : 0 ≤ (x5_1 : Int) := oa
        have q424 : x5_1 < (l1.length : Int) := oa
        obtain ⟨ad424, e424, hx424_0, hx424_1, hx424_2⟩ := at_T139 HR1.out x5_1 p424 q424
        have hw424_2 := hx424_2
        have hw424_1 := hx424_1
        have hw424_0 := hx424_0
        cases e424
        replace hx424_0 := hc HB hx424_0
        replace hx424_1 := hc HB hx424_1
        replace hx424_2 := hc HB hx424_2
        replace p424 := eq_true p424
        replace q424 := eq_true q424
        refine start_ (n := 10) (S := fun w' => w'.cell? (ad423.add ((x5_1).toNat * 3)) = some (.string ((rd_T139 l0 x5_1).f0)) ∧ w'.cell? ⟨(ad423.add ((x5_1).toNat * 3)).block, (ad423.add ((x5_1).toNat * 3)).off + 1, none⟩ = some (.int .i64 ((rd_T139 l0 x5_1).f1)) ∧ w'.cell? ⟨(ad423.add ((x5_1).toNat * 3)).block, (ad423.add ((x5_1).toNat * 3)).off + 2, none⟩ = some (.int .i64 ((rd_T139 l0 x5_1).f2)) ∧ w'.cell? (ad424.add ((x5_1).toNat * 3)) = some (.string ((rd_T139 l1 x5_1).f0)) ∧ w'.cell? ⟨(ad424.add ((x5_1).toNat * 3)).block, (ad424.add ((x5_1).toNat * 3)).off + 1, none⟩ = some (.int .i64 ((rd_T139 l1 x5_1).f1)) ∧ w'.cell? ⟨(ad424.add ((x5_1).toNat * 3)).block, (ad424.add ((x5_1).toNat * 3)).off + 2, none⟩ = some (.int .i64 ((rd_T139 l1 x5_1).f2))) (ds := []) #[false, false, false, false, false, false, false, false, false, false] (by kernel_rfl) rfl rfl ⟨(hc HB hw423_0), (hc HB hw423_1), (hc HB hw423_2), (hc HB hw424_0), (hc HB hw424_1), (hc HB hw424_2)⟩ (fun hHeld => ?_); refine with_tabW laws_eqTeamS.tab6 laws_eqTeamS.bits6 (fun HT_ HW_ => ?_)
        generalize wr.drew = w9 at HB hx423_0 hx423_1 hx423_2 hx424_0 hx424_1 hx424_2 hHeld ⊢
        refine pz_ 0 17 ?_
        refine pz_ 1 18 ?_
        refine pz_ 2 19 ?_
        refine pz_ 4 21 ?_
        refine pz_ 5 22 ?_
        refine pz_ 6 23 ?_
        refine tk_ 3 20 ?_
        refine tk_ 7 24 ?_
        refine one_ (i := 8) (N := some 25) #[true, true, true, true, true, true, true, true, true, false] rfl rfl (one_of HT_.out (by kernel_rfl)) (by decide) (fun K hK => ?_)
        refine goes_ Try.func117 (by kernel_rfl) rfl #[.agg #[.string ((rd_T139 l0 x5_1).f0), .int .i64 ((rd_T139 l0 x5_1).f1), .int .i64 ((rd_T139 l0 x5_1).f2)], .agg #[.string ((rd_T139 l1 x5_1).f0), .int .i64 ((rd_T139 l1 x5_1).f1), .int .i64 ((rd_T139 l1 x5_1).f2)]] (by rfl) rfl rfl (by (try simp only [List.map_toArray, List.map_cons, List.map_nil]); first | done | rfl | (simp only [List.length_drop, List.length_take]; rfl)) ?_
        with_reducible refine (laws_eqTeam.calls ((rd_T139 l0 x5_1).f0) ((rd_T139 l0 x5_1).f1) ((rd_T139 l0 x5_1).f2) ((rd_T139 l1 x5_1).f0) ((rd_T139 l1 x5_1).f1) ((rd_T139 l1 x5_1).f2) true _ A7.out).mono ?_
        rintro e w10 ⟨rfl, hb⟩
        refine ⟨_, rfl, ?_⟩
        replace HB := hs_ HB hb
        (try clear hb hb2 hk hi)
        refine hK.out _ _ ⟨(hc HB hw423_0), (hc HB hw423_1), (hc HB hw423_2), (hc HB hw424_0), (hc HB hw424_1), (hc HB hw424_2)⟩ (fun hHeld => ?_)
        clear hK K
        refine norm_ (a' := ?_) ?_ ?_
        rotate_left
        ·show Act.put _ (some 25) _ = _
         simp only [Act.put, List.setIfInBounds_toArray, List.set_cons_zero, List.set_cons_succ, i64_w, i32_w]
         rfl
        refine pz_ 9 26 ?_
        refine done_ (done_of HT_.out (by kernel_rfl)) ?_
        try go_wp2
        go_roundg k1
        case measure => have := HK1.out; omega
        case rel => exact ⟨(wrap64 (x5_1 + 1)), e2_, H', ⟨by have := HK1.out; omega⟩, ⟨bb HB⟩⟩
       ·replace c8 := Bool.eq_false_iff.mpr c8
        subst c8
        rw [if_neg (show ¬ (false = true) by decide)] at H
        obtain rfl := Option.some.inj H
        try go_wp2
        replace HB := dk (below_drew1 HB.out)
        have p423 : 0 ≤ (x5_1 : Int) := oa
        have q423 : x5_1 < (l0.length : Int) := oa
        obtain ⟨ad423, e423, hx423_0, hx423_1, hx423_2⟩ := at_T139 HR0.out x5_1 p423 q423
        have hw423_2 := hx423_2
        have hw423_1 := hx423_1
        have hw423_0 := hx423_0
        cases e423
        replace hx423_0 := hc HB hx423_0
        replace hx423_1 := hc HB hx423_1
        replace hx423_2 := hc HB hx423_2
        replace p423 := eq_true p423
        replace q423 := eq_true q423
        have p424 : 0 ≤ (x5_1 : Int) := oa
        have q424 : x5_1 < (l1.length : Int) := oa
        obtain ⟨ad424, e424, hx424_0, hx424_1, hx424_2⟩ := at_T139 HR1.out x5_1 p424 q424
        have hw424_2 := hx424_2
        have hw424_1 := hx424_1
        have hw424_0 := hx424_0
        cases e424
        replace hx424_0 := hc HB hx424_0
        replace hx424_1 := hc HB hx424_1
        replace hx424_2 := hc HB hx424_2
        replace p424 := eq_true p424
        replace q424 := eq_true q424
        refine start_ (n := 10) (S := fun w' => w'.cell? (ad423.add ((x5_1).toNat * 3)) = some (.string ((rd_T139 l0 x5_1).f0)) ∧ w'.cell? ⟨(ad423.add ((x5_1).toNat * 3)).block, (ad423.add ((x5_1).toNat * 3)).off + 1, none⟩ = some (.int .i64 ((rd_T139 l0 x5_1).f1)) ∧ w'.cell? ⟨(ad423.add ((x5_1).toNat * 3)).block, (ad423.add ((x5_1).toNat * 3)).off + 2, none⟩ = some (.int .i64 ((rd_T139 l0 x5_1).f2)) ∧ w'.cell? (ad424.add ((x5_1).toNat * 3)) = some (.string ((rd_T139 l1 x5_1).f0)) ∧ w'.cell? ⟨(ad424.add ((x5_1).toNat * 3)).block, (ad424.add ((x5_1).toNat * 3)).off + 1, none⟩ = some (.int .i64 ((rd_T139 l1 x5_1).f1)) ∧ w'.cell? ⟨(ad424.add ((x5_1).toNat * 3)).block, (ad424.add ((x5_1).toNat * 3)).off + 2, none⟩ = some (.int .i64 ((rd_T139 l1 x5_1).f2))) (ds := []) #[false, false, false, false, false, false, false, false, false, false] (by kernel_rfl) rfl rfl ⟨(hc HB hw423_0), (hc HB hw423_1), (hc HB hw423_2), (hc HB hw424_0), (hc HB hw424_1), (hc HB hw424_2)⟩ (fun hHeld => ?_); refine with_tabW laws_eqTeamS.tab6 laws_eqTeamS.bits6 (fun HT_ HW_ => ?_)
        generalize wr.drew = w11 at HB hx423_0 hx423_1 hx423_2 hx424_0 hx424_1 hx424_2 hHeld ⊢
        refine pz_ 0 17 ?_
        refine pz_ 1 18 ?_
        refine pz_ 2 19 ?_
        refine pz_ 4 21 ?_
        refine pz_ 5 22 ?_
        refine pz_ 6 23 ?_
        refine tk_ 3 20 ?_
        refine tk_ 7 24 ?_
        refine one_ (i := 8) (N := some 25) #[true, true, true, true, true, true, true, true, true, false] rfl rfl (one_of HT_.out (by kernel_rfl)) (by decide) (fun K hK => ?_)
        refine goes_ Try.func117 (by kernel_rfl) rfl #[.agg #[.string ((rd_T139 l0 x5_1).f0), .int .i64 ((rd_T139 l0 x5_1).f1), .int .i64 ((rd_T139 l0 x5_1).f2)], .agg #[.string ((rd_T139 l1 x5_1).f0), .int .i64 ((rd_T139 l1 x5_1).f1), .int .i64 ((rd_T139 l1 x5_1).f2)]] (by rfl) rfl rfl (by (try simp only [List.map_toArray, List.map_cons, List.map_nil]); first | done | rfl | (simp only [List.length_drop, List.length_take]; rfl)) ?_
        with_reducible refine (laws_eqTeam.calls ((rd_T139 l0 x5_1).f0) ((rd_T139 l0 x5_1).f1) ((rd_T139 l0 x5_1).f2) ((rd_T139 l1 x5_1).f0) ((rd_T139 l1 x5_1).f1) ((rd_T139 l1 x5_1).f2) false _ A7.out).mono ?_
        rintro e w12 ⟨rfl, hb⟩
        refine ⟨_, rfl, ?_⟩
        replace HB := hs_ HB hb
        (try clear hb hb2 hk hi)
        refine hK.out _ _ ⟨(hc HB hw423_0), (hc HB hw423_1), (hc HB hw423_2), (hc HB hw424_0), (hc HB hw424_1), (hc HB hw424_2)⟩ (fun hHeld => ?_)
        clear hK K
        refine norm_ (a' := ?_) ?_ ?_
        rotate_left
        ·show Act.put _ (some 25) _ = _
         simp only [Act.put, List.setIfInBounds_toArray, List.set_cons_zero, List.set_cons_succ, i64_w, i32_w]
         rfl
        refine pz_ 9 26 ?_
        refine done_ (done_of HT_.out (by kernel_rfl)) ?_
        try go_wp2
        go_ret
        exact ⟨ee, bb HB⟩
      ·rw [if_neg c6] at H
       exact absurd H (by simp)
     ·rw [if_neg c5] at H
      exact absurd H (by simp)
    ·rw [if_neg c4] at H
     have c4b0 : decide (x5_1 < (l0.length : Int)) = false := decide_eq_false c4
     clear c4
     obtain rfl := Option.some.inj H
     go_wp2
     go_ret
     exact ⟨ee, bb HB⟩
 ·rw [if_neg c3] at H
  have c3b0 : ((l0.length : Int) == (l1.length : Int)) = false := beq_eq_false_iff_ne.mpr c3
  have c3b1 : ((l0.length : Int) != (l1.length : Int)) = true := bne_iff_ne.mpr c3
  have c3b2 : (l0.length == l1.length) = false := by first | simpa using c3 | (simp at c3 ⊢; omega)
  obtain rfl := Option.some.inj H
  go_enter Try.func50, Try.ntmps50
  go_wp2
  go_ret
  exact ⟨ee, bb HB⟩
def laws_eqRules.f (k : Nat) (a0_0 : Int) (a0_1 : Int) (a0_2 : Int) (l0_3 : List Int) (a0_4 : Bool) (a1_0 : Int) (a1_1 : Int) (a1_2 : Int) (l1_3 : List Int) (a1_4 : Bool) : Option (Bool) := if a0_0 = a1_0 then (if a0_1 = a1_1 then (if a0_2 = a1_2 then ((laws_eqIntS.f k l0_3 l1_3).bind fun t428 => (if t428 = true then (if (a0_4 != a1_4) = true then (some false) else (some true)) else (some false))) else (some false)) else (some false)) else (some false)
theorem laws_eqRules.calls (k : Nat) (a0_0 : Int) (a0_1 : Int) (a0_2 : Int) (A0_3 : Option Addr) (c0_3 : Nat) (l0_3 : List Int) (a0_4 : Bool) (a1_0 : Int) (a1_1 : Int) (a1_2 : Int) (A1_3 : Option Addr) (c1_3 : Nat) (l1_3 : List Int) (a1_4 : Bool) (r : Bool) (w : World) (hr0_3 : Kd.C (Kd.int .i64) w A0_3 l0_3.length l0_3) (hc0_3 : l0_3.length ≤ c0_3) (hr1_3 : Kd.C (Kd.int .i64) w A1_3 l1_3.length l1_3) (hc1_3 : l1_3.length ≤ c1_3) (h : laws_eqRules.f k a0_0 a0_1 a0_2 l0_3 a0_4 a1_0 a1_1 a1_2 l1_3 a1_4 = some r) :
  Calls Try.prog 65 #[.agg #[.int .i64 a0_0, .int .i64 a0_1, .int .i64 a0_2, .slice A0_3 l0_3.length c0_3, .bool a0_4], .agg #[.int .i64 a1_0, .int .i64 a1_1, .int .i64 a1_2, .slice A1_3 l1_3.length c1_3, .bool a1_4]] w fun e w' => e = .returned (.bool r) ∧ Below w.heap.size w w' := by
 have hu33 := Try.underlying33
 have HR0_3 := dk hr0_3
 have HC0_3 := dk hc0_3
 clear hr0_3 hc0_3
 have HR1_3 := dk hr1_3
 have HC1_3 := dk hc1_3
 clear hr1_3 hc1_3
 have HB := dk (Below.refl w.heap.size w)
 have H : (if a0_0 = a1_0 then (if a0_1 = a1_1 then (if a0_2 = a1_2 then ((laws_eqIntS.f k l0_3 l1_3).bind fun t428 => (if t428 = true then (if (a0_4 != a1_4) = true then (some false) else (some true)) else (some false))) else (some false)) else (some false)) else (some false)) = some r := h
 clear h
 by_cases c3 : a0_0 = a1_0
 ·rw [if_pos c3] at H
  have c3b0 : (a0_0 == a1_0) = true := beq_iff_eq.mpr c3
  have c3b1 : (a0_0 != a1_0) = false := bne_eq_false_iff_eq.mpr c3
  clear c3
  by_cases c4 : a0_1 = a1_1
  ·rw [if_pos c4] at H
   have c4b0 : (a0_1 == a1_1) = true := beq_iff_eq.mpr c4
   have c4b1 : (a0_1 != a1_1) = false := bne_eq_false_iff_eq.mpr c4
   clear c4
   by_cases c5 : a0_2 = a1_2
   ·rw [if_pos c5] at H
    have c5b0 : (a0_2 == a1_2) = true := beq_iff_eq.mpr c5
    have c5b1 : (a0_2 != a1_2) = false := bne_eq_false_iff_eq.mpr c5
    clear c5
    replace H := Option.bind_eq_some_iff.mp H
    obtain ⟨t428, A60, H⟩ := H
    try dsimp only at H
    have A6 := dk A60
    clear A60
    by_cases c7 : t428 = true
    ·subst c7
     rw [if_pos rfl] at H
     by_cases c8 : (a0_4 != a1_4) = true
     ·rw [if_pos c8] at H
      have c8b0 : (a0_4 != a1_4) = true := c8
      (try (have c8b1 : decide (a0_4 = a1_4) = false := by simpa using c8))
      (try (have c8b2 : (a0_4 == a1_4) = false := by simpa using c8))
      (try (have c8b3 : ¬ (a0_4 = a1_4) := by simpa using c8))
      clear c8
      obtain rfl := Option.some.inj H
      go_enter Try.func65, Try.ntmps65
      go_wp2_with (first | ((with_reducible refine gate_dst (N := 2) rfl ?_); refine bx (N := 2) (cs := #[.int .i64 a0_0, .int .i64 a0_1, .int .i64 a0_2, .slice A0_3 l0_3.length c0_3, .bool a0_4]) (t := 33) ?_; intro gb426 hg w9 hbox hb; have BK426 := dk (hbox); have GW426 := gs hg HB; have GE426 := gs hg HB; replace HB := hs_ HB hb; clear hb hbox hg) | ((with_reducible refine gate_dst (N := 3) rfl ?_); refine bx (N := 3) (cs := #[.int .i64 a1_0, .int .i64 a1_1, .int .i64 a1_2, .slice A1_3 l1_3.length c1_3, .bool a1_4]) (t := 33) ?_; intro gb427 hg w10 hbox hb; have BK427 := dk (hbox); have GW427 := gs hg HB; have GE427 := gs hg HB; replace HB := hs_ HB hb; have NB426_427 := gn hg BK426; have NB427_426 := gm hg BK426; replace BK426 := kb BK426 hb; clear hb hbox hg; have hnb11 := NB426_427.out; have hnc11 := NB427_426.out; have ⟨z12_0, z12_1, z12_2, z12_3, z12_4, v12_0, v12_1, v12_2, v12_3, v12_4⟩ := rz5 BK426; have ⟨z13_0, z13_1, z13_2, z13_3, z13_4, v13_0, v13_1, v13_2, v13_3, v13_4⟩ := rz5 BK427) | ((with_reducible refine gate_callee (f := 28) rfl ?_); refine gl (some 24) Try.func28 #[.slice A0_3 l0_3.length c0_3, .slice A1_3 l1_3.length c1_3] ?_; (with_reducible refine (laws_eqIntS.calls k _ _ l0_3 _ _ l1_3 true _ ?side1 ?side2 ?side3 ?side4 A6.out).mono ?_); (case side1 => exact cc HR0_3 HB); (case side2 => exact HC0_3.out); (case side3 => exact cc HR1_3 HB); (case side4 => exact HC1_3.out); rintro e w' ⟨rfl, ⟨nd, rfl⟩⟩; refine ⟨_, rfl, ?_⟩))
      go_ret
      exact ⟨ee, bb HB⟩
     ·rw [if_neg c8] at H
      have c8b0 : (a0_4 != a1_4) = false := by simpa using c8
      (try (have c8b1 : decide (a0_4 = a1_4) = true := by simpa using c8))
      (try (have c8b2 : (a0_4 == a1_4) = true := by simpa using c8))
      clear c8
      obtain rfl := Option.some.inj H
      go_enter Try.func65, Try.ntmps65
      go_wp2_with (first | ((with_reducible refine gate_dst (N := 2) rfl ?_); refine bx (N := 2) (cs := #[.int .i64 a0_0, .int .i64 a0_1, .int .i64 a0_2, .slice A0_3 l0_3.length c0_3, .bool a0_4]) (t := 33) ?_; intro gb426 hg w14 hbox hb; have BK426 := dk (hbox); have GW426 := gs hg HB; have GE426 := gs hg HB; replace HB := hs_ HB hb; clear hb hbox hg) | ((with_reducible refine gate_dst (N := 3) rfl ?_); refine bx (N := 3) (cs := #[.int .i64 a1_0, .int .i64 a1_1, .int .i64 a1_2, .slice A1_3 l1_3.length c1_3, .bool a1_4]) (t := 33) ?_; intro gb427 hg w15 hbox hb; have BK427 := dk (hbox); have GW427 := gs hg HB; have GE427 := gs hg HB; replace HB := hs_ HB hb; have NB426_427 := gn hg BK426; have NB427_426 := gm hg BK426; replace BK426 := kb BK426 hb; clear hb hbox hg; have hnb16 := NB426_427.out; have hnc16 := NB427_426.out; have ⟨z17_0, z17_1, z17_2, z17_3, z17_4, v17_0, v17_1, v17_2, v17_3, v17_4⟩ := rz5 BK426; have ⟨z18_0, z18_1, z18_2, z18_3, z18_4, v18_0, v18_1, v18_2, v18_3, v18_4⟩ := rz5 BK427) | ((with_reducible refine gate_callee (f := 28) rfl ?_); refine gl (some 24) Try.func28 #[.slice A0_3 l0_3.length c0_3, .slice A1_3 l1_3.length c1_3] ?_; (with_reducible refine (laws_eqIntS.calls k _ _ l0_3 _ _ l1_3 true _ ?side1 ?side2 ?side3 ?side4 A6.out).mono ?_); (case side1 => exact cc HR0_3 HB); (case side2 => exact HC0_3.out); (case side3 => exact cc HR1_3 HB); (case side4 => exact HC1_3.out); rintro e w' ⟨rfl, ⟨nd, rfl⟩⟩; refine ⟨_, rfl, ?_⟩))
      go_ret
      exact ⟨ee, bb HB⟩
    ·replace c7 := Bool.eq_false_iff.mpr c7
     subst c7
     rw [if_neg (show ¬ (false = true) by decide)] at H
     obtain rfl := Option.some.inj H
     go_enter Try.func65, Try.ntmps65
     go_wp2_with (first | ((with_reducible refine gate_dst (N := 2) rfl ?_); refine bx (N := 2) (cs := #[.int .i64 a0_0, .int .i64 a0_1, .int .i64 a0_2, .slice A0_3 l0_3.length c0_3, .bool a0_4]) (t := 33) ?_; intro gb426 hg w19 hbox hb; have BK426 := dk (hbox); have GW426 := gs hg HB; have GE426 := gs hg HB; replace HB := hs_ HB hb; clear hb hbox hg) | ((with_reducible refine gate_dst (N := 3) rfl ?_); refine bx (N := 3) (cs := #[.int .i64 a1_0, .int .i64 a1_1, .int .i64 a1_2, .slice A1_3 l1_3.length c1_3, .bool a1_4]) (t := 33) ?_; intro gb427 hg w20 hbox hb; have BK427 := dk (hbox); have GW427 := gs hg HB; have GE427 := gs hg HB; replace HB := hs_ HB hb; have NB426_427 := gn hg BK426; have NB427_426 := gm hg BK426; replace BK426 := kb BK426 hb; clear hb hbox hg; have hnb21 := NB426_427.out; have hnc21 := NB427_426.out; have ⟨z22_0, z22_1, z22_2, z22_3, z22_4, v22_0, v22_1, v22_2, v22_3, v22_4⟩ := rz5 BK426; have ⟨z23_0, z23_1, z23_2, z23_3, z23_4, v23_0, v23_1, v23_2, v23_3, v23_4⟩ := rz5 BK427) | ((with_reducible refine gate_callee (f := 28) rfl ?_); refine gl (some 24) Try.func28 #[.slice A0_3 l0_3.length c0_3, .slice A1_3 l1_3.length c1_3] ?_; (with_reducible refine (laws_eqIntS.calls k _ _ l0_3 _ _ l1_3 false _ ?side1 ?side2 ?side3 ?side4 A6.out).mono ?_); (case side1 => exact cc HR0_3 HB); (case side2 => exact HC0_3.out); (case side3 => exact cc HR1_3 HB); (case side4 => exact HC1_3.out); rintro e w' ⟨rfl, ⟨nd, rfl⟩⟩; refine ⟨_, rfl, ?_⟩))
     go_ret
     exact ⟨ee, bb HB⟩
   ·rw [if_neg c5] at H
    have c5b0 : (a0_2 == a1_2) = false := beq_eq_false_iff_ne.mpr c5
    have c5b1 : (a0_2 != a1_2) = true := bne_iff_ne.mpr c5
    obtain rfl := Option.some.inj H
    go_enter Try.func65, Try.ntmps65
    go_wp2_with (first | ((with_reducible refine gate_dst (N := 2) rfl ?_); refine bx (N := 2) (cs := #[.int .i64 a0_0, .int .i64 a0_1, .int .i64 a0_2, .slice A0_3 l0_3.length c0_3, .bool a0_4]) (t := 33) ?_; intro gb426 hg w24 hbox hb; have BK426 := dk (hbox); have GW426 := gs hg HB; have GE426 := gs hg HB; replace HB := hs_ HB hb; clear hb hbox hg) | ((with_reducible refine gate_dst (N := 3) rfl ?_); refine bx (N := 3) (cs := #[.int .i64 a1_0, .int .i64 a1_1, .int .i64 a1_2, .slice A1_3 l1_3.length c1_3, .bool a1_4]) (t := 33) ?_; intro gb427 hg w25 hbox hb; have BK427 := dk (hbox); have GW427 := gs hg HB; have GE427 := gs hg HB; replace HB := hs_ HB hb; have NB426_427 := gn hg BK426; have NB427_426 := gm hg BK426; replace BK426 := kb BK426 hb; clear hb hbox hg; have hnb26 := NB426_427.out; have hnc26 := NB427_426.out; have ⟨z27_0, z27_1, z27_2, z27_3, z27_4, v27_0, v27_1, v27_2, v27_3, v27_4⟩ := rz5 BK426; have ⟨z28_0, z28_1, z28_2, z28_3, z28_4, v28_0, v28_1, v28_2, v28_3, v28_4⟩ := rz5 BK427))
    go_ret
    exact ⟨ee, bb HB⟩
  ·rw [if_neg c4] at H
   have c4b0 : (a0_1 == a1_1) = false := beq_eq_false_iff_ne.mpr c4
   have c4b1 : (a0_1 != a1_1) = true := bne_iff_ne.mpr c4
   obtain rfl := Option.some.inj H
   go_enter Try.func65, Try.ntmps65
   go_wp2_with (first | ((with_reducible refine gate_dst (N := 2) rfl ?_); refine bx (N := 2) (cs := #[.int .i64 a0_0, .int .i64 a0_1, .int .i64 a0_2, .slice A0_3 l0_3.length c0_3, .bool a0_4]) (t := 33) ?_; intro gb426 hg w29 hbox hb; have BK426 := dk (hbox); have GW426 := gs hg HB; have GE426 := gs hg HB; replace HB := hs_ HB hb; clear hb hbox hg) | ((with_reducible refine gate_dst (N := 3) rfl ?_); refine bx (N := 3) (cs := #[.int .i64 a1_0, .int .i64 a1_1, .int .i64 a1_2, .slice A1_3 l1_3.length c1_3, .bool a1_4]) (t := 33) ?_; intro gb427 hg w30 hbox hb; have BK427 := dk (hbox); have GW427 := gs hg HB; have GE427 := gs hg HB; replace HB := hs_ HB hb; have NB426_427 := gn hg BK426; have NB427_426 := gm hg BK426; replace BK426 := kb BK426 hb; clear hb hbox hg; have hnb31 := NB426_427.out; have hnc31 := NB427_426.out; have ⟨z32_0, z32_1, z32_2, z32_3, z32_4, v32_0, v32_1, v32_2, v32_3, v32_4⟩ := rz5 BK426; have ⟨z33_0, z33_1, z33_2, z33_3, z33_4, v33_0, v33_1, v33_2, v33_3, v33_4⟩ := rz5 BK427))
   go_ret
   exact ⟨ee, bb HB⟩
 ·rw [if_neg c3] at H
  have c3b0 : (a0_0 == a1_0) = false := beq_eq_false_iff_ne.mpr c3
  have c3b1 : (a0_0 != a1_0) = true := bne_iff_ne.mpr c3
  obtain rfl := Option.some.inj H
  go_enter Try.func65, Try.ntmps65
  go_wp2_with (first | ((with_reducible refine gate_dst (N := 2) rfl ?_); refine bx (N := 2) (cs := #[.int .i64 a0_0, .int .i64 a0_1, .int .i64 a0_2, .slice A0_3 l0_3.length c0_3, .bool a0_4]) (t := 33) ?_; intro gb426 hg w34 hbox hb; have BK426 := dk (hbox); have GW426 := gs hg HB; have GE426 := gs hg HB; replace HB := hs_ HB hb; clear hb hbox hg) | ((with_reducible refine gate_dst (N := 3) rfl ?_); refine bx (N := 3) (cs := #[.int .i64 a1_0, .int .i64 a1_1, .int .i64 a1_2, .slice A1_3 l1_3.length c1_3, .bool a1_4]) (t := 33) ?_; intro gb427 hg w35 hbox hb; have BK427 := dk (hbox); have GW427 := gs hg HB; have GE427 := gs hg HB; replace HB := hs_ HB hb; have NB426_427 := gn hg BK426; have NB427_426 := gm hg BK426; replace BK426 := kb BK426 hb; clear hb hbox hg; have hnb36 := NB426_427.out; have hnc36 := NB427_426.out; have ⟨z37_0, z37_1, z37_2, z37_3, z37_4, v37_0, v37_1, v37_2, v37_3, v37_4⟩ := rz5 BK426; have ⟨z38_0, z38_1, z38_2, z38_3, z38_4, v38_0, v38_1, v38_2, v38_3, v38_4⟩ := rz5 BK427))
  go_ret
  exact ⟨ee, bb HB⟩
def laws_eqGame.f (a0_0 : Int) (a0_1 : Int) (a0_2 : Int) (a0_3 : Int) (a0_4 : Int) (a1_0 : Int) (a1_1 : Int) (a1_2 : Int) (a1_3 : Int) (a1_4 : Int) : Option (Bool) := if a0_0 = a1_0 then (if a0_1 = a1_1 then (if a0_2 = a1_2 then (if a0_3 = a1_3 then (if a0_4 = a1_4 then (some true) else (some false)) else (some false)) else (some false)) else (some false)) else (some false)
theorem laws_eqGame.calls (a0_0 : Int) (a0_1 : Int) (a0_2 : Int) (a0_3 : Int) (a0_4 : Int) (a1_0 : Int) (a1_1 : Int) (a1_2 : Int) (a1_3 : Int) (a1_4 : Int) (r : Bool) (w : World) (h : laws_eqGame.f a0_0 a0_1 a0_2 a0_3 a0_4 a1_0 a1_1 a1_2 a1_3 a1_4 = some r) :
  Calls Try.prog 129 #[.agg #[.int .i64 a0_0, .int .i64 a0_1, .int .i64 a0_2, .int .i64 a0_3, .int .i64 a0_4], .agg #[.int .i64 a1_0, .int .i64 a1_1, .int .i64 a1_2, .int .i64 a1_3, .int .i64 a1_4]] w fun e w' => e = .returned (.bool r) ∧ Below w.heap.size w w' := by
 have hu95 := Try.underlying95
 have HB := dk (Below.refl w.heap.size w)
 have H : (if a0_0 = a1_0 then (if a0_1 = a1_1 then (if a0_2 = a1_2 then (if a0_3 = a1_3 then (if a0_4 = a1_4 then (some true) else (some false)) else (some false)) else (some false)) else (some false)) else (some false)) = some r := h
 clear h
 by_cases c3 : a0_0 = a1_0
 ·rw [if_pos c3] at H
  have c3b0 : (a0_0 == a1_0) = true := beq_iff_eq.mpr c3
  have c3b1 : (a0_0 != a1_0) = false := bne_eq_false_iff_eq.mpr c3
  clear c3
  by_cases c4 : a0_1 = a1_1
  ·rw [if_pos c4] at H
   have c4b0 : (a0_1 == a1_1) = true := beq_iff_eq.mpr c4
   have c4b1 : (a0_1 != a1_1) = false := bne_eq_false_iff_eq.mpr c4
   clear c4
   by_cases c5 : a0_2 = a1_2
   ·rw [if_pos c5] at H
    have c5b0 : (a0_2 == a1_2) = true := beq_iff_eq.mpr c5
    have c5b1 : (a0_2 != a1_2) = false := bne_eq_false_iff_eq.mpr c5
    clear c5
    by_cases c6 : a0_3 = a1_3
    ·rw [if_pos c6] at H
     have c6b0 : (a0_3 == a1_3) = true := beq_iff_eq.mpr c6
     have c6b1 : (a0_3 != a1_3) = false := bne_eq_false_iff_eq.mpr c6
     clear c6
     by_cases c7 : a0_4 = a1_4
     ·rw [if_pos c7] at H
      have c7b0 : (a0_4 == a1_4) = true := beq_iff_eq.mpr c7
      have c7b1 : (a0_4 != a1_4) = false := bne_eq_false_iff_eq.mpr c7
      clear c7
      obtain rfl := Option.some.inj H
      go_enter Try.func129, Try.ntmps129
      go_wp2_with (first | ((with_reducible refine gate_dst (N := 2) rfl ?_); refine bx (N := 2) (cs := #[.int .i64 a0_0, .int .i64 a0_1, .int .i64 a0_2, .int .i64 a0_3, .int .i64 a0_4]) (t := 95) ?_; intro gb429 hg w8 hbox hb; have BK429 := dk (hbox); have GW429 := gs hg HB; have GE429 := gs hg HB; replace HB := hs_ HB hb; clear hb hbox hg) | ((with_reducible refine gate_dst (N := 3) rfl ?_); refine bx (N := 3) (cs := #[.int .i64 a1_0, .int .i64 a1_1, .int .i64 a1_2, .int .i64 a1_3, .int .i64 a1_4]) (t := 95) ?_; intro gb430 hg w9 hbox hb; have BK430 := dk (hbox); have GW430 := gs hg HB; have GE430 := gs hg HB; replace HB := hs_ HB hb; have NB429_430 := gn hg BK429; have NB430_429 := gm hg BK429; replace BK429 := kb BK429 hb; clear hb hbox hg; have hnb10 := NB429_430.out; have hnc10 := NB430_429.out; have ⟨z11_0, z11_1, z11_2, z11_3, z11_4, v11_0, v11_1, v11_2, v11_3, v11_4⟩ := rz5 BK429; have ⟨z12_0, z12_1, z12_2, z12_3, z12_4, v12_0, v12_1, v12_2, v12_3, v12_4⟩ := rz5 BK430))
      go_ret
      exact ⟨ee, bb HB⟩
     ·rw [if_neg c7] at H
      have c7b0 : (a0_4 == a1_4) = false := beq_eq_false_iff_ne.mpr c7
      have c7b1 : (a0_4 != a1_4) = true := bne_iff_ne.mpr c7
      obtain rfl := Option.some.inj H
      go_enter Try.func129, Try.ntmps129
      go_wp2_with (first | ((with_reducible refine gate_dst (N := 2) rfl ?_); refine bx (N := 2) (cs := #[.int .i64 a0_0, .int .i64 a0_1, .int .i64 a0_2, .int .i64 a0_3, .int .i64 a0_4]) (t := 95) ?_; intro gb429 hg w13 hbox hb; have BK429 := dk (hbox); have GW429 := gs hg HB; have GE429 := gs hg HB; replace HB := hs_ HB hb; clear hb hbox hg) | ((with_reducible refine gate_dst (N := 3) rfl ?_); refine bx (N := 3) (cs := #[.int .i64 a1_0, .int .i64 a1_1, .int .i64 a1_2, .int .i64 a1_3, .int .i64 a1_4]) (t := 95) ?_; intro gb430 hg w14 hbox hb; have BK430 := dk (hbox); have GW430 := gs hg HB; have GE430 := gs hg HB; replace HB := hs_ HB hb; have NB429_430 := gn hg BK429; have NB430_429 := gm hg BK429; replace BK429 := kb BK429 hb; clear hb hbox hg; have hnb15 := NB429_430.out; have hnc15 := NB430_429.out; have ⟨z16_0, z16_1, z16_2, z16_3, z16_4, v16_0, v16_1, v16_2, v16_3, v16_4⟩ := rz5 BK429; have ⟨z17_0, z17_1, z17_2, z17_3, z17_4, v17_0, v17_1, v17_2, v17_3, v17_4⟩ := rz5 BK430))
      go_ret
      exact ⟨ee, bb HB⟩
    ·rw [if_neg c6] at H
     have c6b0 : (a0_3 == a1_3) = false := beq_eq_false_iff_ne.mpr c6
     have c6b1 : (a0_3 != a1_3) = true := bne_iff_ne.mpr c6
     obtain rfl := Option.some.inj H
     go_enter Try.func129, Try.ntmps129
     go_wp2_with (first | ((with_reducible refine gate_dst (N := 2) rfl ?_); refine bx (N := 2) (cs := #[.int .i64 a0_0, .int .i64 a0_1, .int .i64 a0_2, .int .i64 a0_3, .int .i64 a0_4]) (t := 95) ?_; intro gb429 hg w18 hbox hb; have BK429 := dk (hbox); have GW429 := gs hg HB; have GE429 := gs hg HB; replace HB := hs_ HB hb; clear hb hbox hg) | ((with_reducible refine gate_dst (N := 3) rfl ?_); refine bx (N := 3) (cs := #[.int .i64 a1_0, .int .i64 a1_1, .int .i64 a1_2, .int .i64 a1_3, .int .i64 a1_4]) (t := 95) ?_; intro gb430 hg w19 hbox hb; have BK430 := dk (hbox); have GW430 := gs hg HB; have GE430 := gs hg HB; replace HB := hs_ HB hb; have NB429_430 := gn hg BK429; have NB430_429 := gm hg BK429; replace BK429 := kb BK429 hb; clear hb hbox hg; have hnb20 := NB429_430.out; have hnc20 := NB430_429.out; have ⟨z21_0, z21_1, z21_2, z21_3, z21_4, v21_0, v21_1, v21_2, v21_3, v21_4⟩ := rz5 BK429; have ⟨z22_0, z22_1, z22_2, z22_3, z22_4, v22_0, v22_1, v22_2, v22_3, v22_4⟩ := rz5 BK430))
     go_ret
     exact ⟨ee, bb HB⟩
   ·rw [if_neg c5] at H
    have c5b0 : (a0_2 == a1_2) = false := beq_eq_false_iff_ne.mpr c5
    have c5b1 : (a0_2 != a1_2) = true := bne_iff_ne.mpr c5
    obtain rfl := Option.some.inj H
    go_enter Try.func129, Try.ntmps129
    go_wp2_with (first | ((with_reducible refine gate_dst (N := 2) rfl ?_); refine bx (N := 2) (cs := #[.int .i64 a0_0, .int .i64 a0_1, .int .i64 a0_2, .int .i64 a0_3, .int .i64 a0_4]) (t := 95) ?_; intro gb429 hg w23 hbox hb; have BK429 := dk (hbox); have GW429 := gs hg HB; have GE429 := gs hg HB; replace HB := hs_ HB hb; clear hb hbox hg) | ((with_reducible refine gate_dst (N := 3) rfl ?_); refine bx (N := 3) (cs := #[.int .i64 a1_0, .int .i64 a1_1, .int .i64 a1_2, .int .i64 a1_3, .int .i64 a1_4]) (t := 95) ?_; intro gb430 hg w24 hbox hb; have BK430 := dk (hbox); have GW430 := gs hg HB; have GE430 := gs hg HB; replace HB := hs_ HB hb; have NB429_430 := gn hg BK429; have NB430_429 := gm hg BK429; replace BK429 := kb BK429 hb; clear hb hbox hg; have hnb25 := NB429_430.out; have hnc25 := NB430_429.out; have ⟨z26_0, z26_1, z26_2, z26_3, z26_4, v26_0, v26_1, v26_2, v26_3, v26_4⟩ := rz5 BK429; have ⟨z27_0, z27_1, z27_2, z27_3, z27_4, v27_0, v27_1, v27_2, v27_3, v27_4⟩ := rz5 BK430))
    go_ret
    exact ⟨ee, bb HB⟩
  ·rw [if_neg c4] at H
   have c4b0 : (a0_1 == a1_1) = false := beq_eq_false_iff_ne.mpr c4
   have c4b1 : (a0_1 != a1_1) = true := bne_iff_ne.mpr c4
   obtain rfl := Option.some.inj H
   go_enter Try.func129, Try.ntmps129
   go_wp2_with (first | ((with_reducible refine gate_dst (N := 2) rfl ?_); refine bx (N := 2) (cs := #[.int .i64 a0_0, .int .i64 a0_1, .int .i64 a0_2, .int .i64 a0_3, .int .i64 a0_4]) (t := 95) ?_; intro gb429 hg w28 hbox hb; have BK429 := dk (hbox); have GW429 := gs hg HB; have GE429 := gs hg HB; replace HB := hs_ HB hb; clear hb hbox hg) | ((with_reducible refine gate_dst (N := 3) rfl ?_); refine bx (N := 3) (cs := #[.int .i64 a1_0, .int .i64 a1_1, .int .i64 a1_2, .int .i64 a1_3, .int .i64 a1_4]) (t := 95) ?_; intro gb430 hg w29 hbox hb; have BK430 := dk (hbox); have GW430 := gs hg HB; have GE430 := gs hg HB; replace HB := hs_ HB hb; have NB429_430 := gn hg BK429; have NB430_429 := gm hg BK429; replace BK429 := kb BK429 hb; clear hb hbox hg; have hnb30 := NB429_430.out; have hnc30 := NB430_429.out; have ⟨z31_0, z31_1, z31_2, z31_3, z31_4, v31_0, v31_1, v31_2, v31_3, v31_4⟩ := rz5 BK429; have ⟨z32_0, z32_1, z32_2, z32_3, z32_4, v32_0, v32_1, v32_2, v32_3, v32_4⟩ := rz5 BK430))
   go_ret
   exact ⟨ee, bb HB⟩
 ·rw [if_neg c3] at H
  have c3b0 : (a0_0 == a1_0) = false := beq_eq_false_iff_ne.mpr c3
  have c3b1 : (a0_0 != a1_0) = true := bne_iff_ne.mpr c3
  obtain rfl := Option.some.inj H
  go_enter Try.func129, Try.ntmps129
  go_wp2_with (first | ((with_reducible refine gate_dst (N := 2) rfl ?_); refine bx (N := 2) (cs := #[.int .i64 a0_0, .int .i64 a0_1, .int .i64 a0_2, .int .i64 a0_3, .int .i64 a0_4]) (t := 95) ?_; intro gb429 hg w33 hbox hb; have BK429 := dk (hbox); have GW429 := gs hg HB; have GE429 := gs hg HB; replace HB := hs_ HB hb; clear hb hbox hg) | ((with_reducible refine gate_dst (N := 3) rfl ?_); refine bx (N := 3) (cs := #[.int .i64 a1_0, .int .i64 a1_1, .int .i64 a1_2, .int .i64 a1_3, .int .i64 a1_4]) (t := 95) ?_; intro gb430 hg w34 hbox hb; have BK430 := dk (hbox); have GW430 := gs hg HB; have GE430 := gs hg HB; replace HB := hs_ HB hb; have NB429_430 := gn hg BK429; have NB430_429 := gm hg BK429; replace BK429 := kb BK429 hb; clear hb hbox hg; have hnb35 := NB429_430.out; have hnc35 := NB430_429.out; have ⟨z36_0, z36_1, z36_2, z36_3, z36_4, v36_0, v36_1, v36_2, v36_3, v36_4⟩ := rz5 BK429; have ⟨z37_0, z37_1, z37_2, z37_3, z37_4, v37_0, v37_1, v37_2, v37_3, v37_4⟩ := rz5 BK430))
  go_ret
  exact ⟨ee, bb HB⟩
def laws_eqGameS.l0 : Nat → List (S95) → List (S95) → Int → Option (Bool)
 | 0, _, _, _ => none
 | k + 1, x0, x1, x5 => if x5 < (x0.length : Int) then (if 0 ≤ x5 then (if x5 < (x1.length : Int) then ((laws_eqGame.f ((rd_T95 x0 x5).f0) ((rd_T95 x0 x5).f1) ((rd_T95 x0 x5).f2) ((rd_T95 x0 x5).f3) ((rd_T95 x0 x5).f4) ((rd_T95 x1 x5).f0) ((rd_T95 x1 x5).f1) ((rd_T95 x1 x5).f2) ((rd_T95 x1 x5).f3) ((rd_T95 x1 x5).f4)).bind fun t433 => (if t433 = true then (laws_eqGameS.l0 k x0 x1 (wrap64 (x5 + 1))) else (some false))) else (none)) else (none)) else (some true)
def laws_eqGameS.f (k : Nat) (l0 : List (S95)) (l1 : List (S95)) : Option (Bool) := if (l0.length : Int) = (l1.length : Int) then (laws_eqGameS.l0 k l0 l1 0) else (some false)
def laws_eqGameS.T6 : Bool × List (List Nat × List Nat) := (true, [([], []), ([], []), ([0, 1], [0, 1]), ([2], [2]), ([], []), ([], []), ([4, 5], [4, 5]), ([6], [6]), ([3, 7], [3, 7]), ([8], [8])])
def laws_eqGameS.B6 : List Nat := [0, 0, 3, 7, 0, 0, 48, 112, 255, 511]
theorem laws_eqGameS.tab6 : rtab .any (opsOf Try.f66 6) = laws_eqGameS.T6 := by kernel_rfl
theorem laws_eqGameS.bits6 : waitsOk laws_eqGameS.T6.2 laws_eqGameS.B6 = true := by kernel_rfl
theorem laws_eqGameS.calls (k : Nat) (A0 : Option Addr) (c0 : Nat) (l0 : List (S95)) (A1 : Option Addr) (c1 : Nat) (l1 : List (S95)) (r : Bool) (w : World) (hr0 : Kd.C k95 w A0 l0.length l0) (hc0 : l0.length ≤ c0) (hr1 : Kd.C k95 w A1 l1.length l1) (hc1 : l1.length ≤ c1) (h : laws_eqGameS.f k l0 l1 = some r) :
  Calls Try.prog 66 #[.slice A0 l0.length c0, .slice A1 l1.length c1] w fun e w' => e = .returned (.bool r) ∧ Below w.heap.size w w' := by
 have hu95 := Try.underlying95
 have HR0 := dk hr0
 have HC0 := dk hc0
 clear hr0 hc0
 have HR1 := dk hr1
 have HC1 := dk hc1
 clear hr1 hc1
 have HB := dk (Below.refl w.heap.size w)
 have H : (if (l0.length : Int) = (l1.length : Int) then (laws_eqGameS.l0 k l0 l1 0) else (some false)) = some r := h
 clear h
 by_cases c3 : (l0.length : Int) = (l1.length : Int)
 ·rw [if_pos c3] at H
  have c3b0 : ((l0.length : Int) == (l1.length : Int)) = true := beq_iff_eq.mpr c3
  have c3b1 : ((l0.length : Int) != (l1.length : Int)) = false := bne_eq_false_iff_eq.mpr c3
  have c3b2 : (l0.length == l1.length) = true := by first | simpa using c3 | (simp at c3 ⊢; omega)
  clear c3
  have H' := dk H
  clear H
  go_enter Try.func66, Try.ntmps66
  go_wp2
  go_loopg [5] k (fun kq v5 w' => ∃ (x5_1 : Int), v5 = .int .i64 x5_1 ∧ Aside0 (laws_eqGameS.l0 kq l0 l1 x5_1 = some r) ∧ Aside0 (kq ≤ k) ∧ Aside0 (Below w.heap.size w w'))
  case atStart => exact ⟨(0), e2_, H', ⟨Nat.le_refl _⟩, ⟨bb HB⟩⟩
  case round =>
   clear H'
   (try clear c1)
   (try clear p2)
   (try clear c3)
   (try clear c3b0)
   (try clear c3b1)
   (try clear c3b2)
   obtain ⟨x5_1, rfl, HA, HK1, HB⟩ := hrel
   cases gk with
   | zero => exact absurd HA.out (by simp [laws_eqGameS.l0])
   | succ k1 =>
    have H := HA.out
    clear HA
    simp only [laws_eqGameS.l0] at H
    by_cases c4 : x5_1 < (l0.length : Int)
    ·rw [if_pos c4] at H
     have c4b0 : decide (x5_1 < (l0.length : Int)) = true := decide_eq_true c4
     clear c4
     by_cases c5 : 0 ≤ x5_1
     ·rw [if_pos c5] at H
      have c5b0 : decide (0 ≤ x5_1) = true := decide_eq_true c5
      clear c5
      by_cases c6 : x5_1 < (l1.length : Int)
      ·rw [if_pos c6] at H
       have c6b0 : decide (x5_1 < (l1.length : Int)) = true := decide_eq_true c6
       clear c6
       replace H := Option.bind_eq_some_iff.mp H
       obtain ⟨t433, A70, H⟩ := H
       try dsimp only at H
       have A7 := dk A70
       clear A70
       by_cases c8 : t433 = true
       ·subst c8
        rw [if_pos rfl] at H
        have H' := dk H
        clear H
        try go_wp2
        replace HB := dk (below_drew1 HB.out)
        have p431 : 0 ≤ (x5_1 : Int) := oa
        have q431 : x5_1 < (l0.length : Int) := oa
        obtain ⟨ad431, e431, hx431_0, hx431_1, hx431_2, hx431_3, hx431_4⟩ := at_T95 HR0.out x5_1 p431 q431
        have hw431_4 := hx431_4
        have hw431_3 := hx431_3
        have hw431_2 := hx431_2
        have hw431_1 := hx431_1
        have hw431_0 := hx431_0
        cases e431
        replace hx431_0 := hc HB hx431_0
        replace hx431_1 := hc HB hx431_1
        replace hx431_2 := hc HB hx431_2
        replace hx431_3 := hc HB hx431_3
        replace hx431_4 := hc HB hx431_4
        replace p431 := eq_true p431
        replace q431 := eq_true q431
        have p432 : 0 ≤ (x5_1 : Int) := oa
        have q432 : x5_1 < (l1.length : Int) := oa
        obtain ⟨ad432, e432, hx432_0, hx432_1, hx432_2, hx432_3, hx432_4⟩ := at_T95 HR1.out x5_1 p432 q432
        have hw432_4 := hx432_4
        have hw432_3 := hx432_3
        have hw432_2 := hx432_2
        have hw432_1 := hx432_1
        have hw432_0 := hx432_0
        cases e432
        replace hx432_0 := hc HB hx432_0
        replace hx432_1 := hc HB hx432_1
        replace hx432_2 := hc HB hx432_2
        replace hx432_3 := hc HB hx432_3
        replace hx432_4 := hc HB hx432_4
        replace p432 := eq_true p432
        replace q432 := eq_true q432
        refine start_ (n := 10) (S := fun w' => w'.cell? (ad431.add ((x5_1).toNat * 5)) = some (.int .i64 ((rd_T95 l0 x5_1).f0)) ∧ w'.cell? ⟨(ad431.add ((x5_1).toNat * 5)).block, (ad431.add ((x5_1).toNat * 5)).off + 1, none⟩ = some (.int .i64 ((rd_T95 l0 x5_1).f1)) ∧ w'.cell? ⟨(ad431.add ((x5_1).toNat * 5)).block, (ad431.add ((x5_1).toNat * 5)).off + 2, none⟩ = some (.int .i64 ((rd_T95 l0 x5_1).f2)) ∧ w'.cell? ⟨(ad431.add ((x5_1).toNat * 5)).block, (ad431.add ((x5_1).toNat * 5)).off + 3, none⟩ = some (.int .i64 ((rd_T95 l0 x5_1).f3)) ∧ w'.cell? ⟨(ad431.add ((x5_1).toNat * 5)).block, (ad431.add ((x5_1).toNat * 5)).off + 4, none⟩ = some (.int .i64 ((rd_T95 l0 x5_1).f4)) ∧ w'.cell? (ad432.add ((x5_1).toNat * 5)) = some (.int .i64 ((rd_T95 l1 x5_1).f0)) ∧ w'.cell? ⟨(ad432.add ((x5_1).toNat * 5)).block, (ad432.add ((x5_1).toNat * 5)).off + 1, none⟩ = some (.int .i64 ((rd_T95 l1 x5_1).f1)) ∧ w'.cell? ⟨(ad432.add ((x5_1).toNat * 5)).block, (ad432.add ((x5_1).toNat * 5)).off + 2, none⟩ = some (.int .i64 ((rd_T95 l1 x5_1).f2)) ∧ w'.cell? ⟨(ad432.add ((x5_1).toNat * 5)).block, (ad432.add ((x5_1).toNat * 5)).off + 3, none⟩ = some (.int .i64 ((rd_T95 l1 x5_1).f3)) ∧ w'.cell? ⟨(ad432.add ((x5_1).toNat * 5)).block, (ad432.add ((x5_1).toNat * 5)).off + 4, none⟩ = some (.int .i64 ((rd_T95 l1 x5_1).f4))) (ds := []) #[false, false, false, false, false, false, false, false, false, false] (by kernel_rfl) rfl rfl ⟨(hc HB hw431_0), (hc HB hw431_1), (hc HB hw431_2), (hc HB hw431_3), (hc HB hw431_4), (hc HB hw432_0), (hc HB hw432_1), (hc HB hw432_2), (hc HB hw432_3), (hc HB hw432_4)⟩ (fun hHeld => ?_); refine with_tabW laws_eqGameS.tab6 laws_eqGameS.bits6 (fun HT_ HW_ => ?_)
        generalize wr.drew = w9 at HB hx431_0 hx431_1 hx431_2 hx431_3 hx431_4 hx432_0 hx432_1 hx432_2 hx432_3 hx432_4 hHeld ⊢
        refine pz_ 0 17 ?_
        refine pz_ 1 18 ?_
        refine pz_ 2 19 ?_
        refine pz_ 4 21 ?_
        refine pz_ 5 22 ?_
        refine pz_ 6 23 ?_
        refine tk_ 3 20 ?_
        refine tk_ 7 24 ?_
        refine one_ (i := 8) (N := some 25) #[true, true, true, true, true, true, true, true, true, false] rfl rfl (one_of HT_.out (by kernel_rfl)) (by decide) (fun K hK => ?_)
        refine goes_ Try.func129 (by kernel_rfl) rfl #[.agg #[.int .i64 ((rd_T95 l0 x5_1).f0), .int .i64 ((rd_T95 l0 x5_1).f1), .int .i64 ((rd_T95 l0 x5_1).f2), .int .i64 ((rd_T95 l0 x5_1).f3), .int .i64 ((rd_T95 l0 x5_1).f4)], .agg #[.int .i64 ((rd_T95 l1 x5_1).f0), .int .i64 ((rd_T95 l1 x5_1).f1), .int .i64 ((rd_T95 l1 x5_1).f2), .int .i64 ((rd_T95 l1 x5_1).f3), .int .i64 ((rd_T95 l1 x5_1).f4)]] (by rfl) rfl rfl (by (try simp only [List.map_toArray, List.map_cons, List.map_nil]); first | done | rfl | (simp only [List.length_drop, List.length_take]; rfl)) ?_
        with_reducible refine (laws_eqGame.calls ((rd_T95 l0 x5_1).f0) ((rd_T95 l0 x5_1).f1) ((rd_T95 l0 x5_1).f2) ((rd_T95 l0 x5_1).f3) ((rd_T95 l0 x5_1).f4) ((rd_T95 l1 x5_1).f0) ((rd_T95 l1 x5_1).f1) ((rd_T95 l1 x5_1).f2) ((rd_T95 l1 x5_1).f3) ((rd_T95 l1 x5_1).f4) true _ A7.out).mono ?_
        rintro e w10 ⟨rfl, hb⟩
        refine ⟨_, rfl, ?_⟩
        replace HB := hs_ HB hb
        (try clear hb hb2 hk hi)
        refine hK.out _ _ ⟨(hc HB hw431_0), (hc HB hw431_1), (hc HB hw431_2), (hc HB hw431_3), (hc HB hw431_4), (hc HB hw432_0), (hc HB hw432_1), (hc HB hw432_2), (hc HB hw432_3), (hc HB hw432_4)⟩ (fun hHeld => ?_)
        clear hK K
        refine norm_ (a' := ?_) ?_ ?_
        rotate_left
        ·show Act.put _ (some 25) _ = _
         simp only [Act.put, List.setIfInBounds_toArray, List.set_cons_zero, List.set_cons_succ, i64_w, i32_w]
         rfl
        refine pz_ 9 26 ?_
        refine done_ (done_of HT_.out (by kernel_rfl)) ?_
        try go_wp2
        go_roundg k1
        case measure => have := HK1.out; omega
        case rel => exact ⟨(wrap64 (x5_1 + 1)), e2_, H', ⟨by have := HK1.out; omega⟩, ⟨bb HB⟩⟩
       ·replace c8 := Bool.eq_false_iff.mpr c8
        subst c8
        rw [if_neg (show ¬ (false = true) by decide)] at H
        obtain rfl := Option.some.inj H
        try go_wp2
        replace HB := dk (below_drew1 HB.out)
        have p431 : 0 ≤ (x5_1 : Int) := oa
        have q431 : x5_1 < (l0.length : Int) := oa
        obtain ⟨ad431, e431, hx431_0, hx431_1, hx431_2, hx431_3, hx431_4⟩ := at_T95 HR0.out x5_1 p431 q431
        have hw431_4 := hx431_4
        have hw431_3 := hx431_3
        have hw431_2 := hx431_2
        have hw431_1 := hx431_1
        have hw431_0 := hx431_0
        cases e431
        replace hx431_0 := hc HB hx431_0
        replace hx431_1 := hc HB hx431_1
        replace hx431_2 := hc HB hx431_2
        replace hx431_3 := hc HB hx431_3
        replace hx431_4 := hc HB hx431_4
        replace p431 := eq_true p431
        replace q431 := eq_true q431
        have p432 : 0 ≤ (x5_1 : Int) := oa
        have q432 : x5_1 < (l1.length : Int) := oa
        obtain ⟨ad432, e432, hx432_0, hx432_1, hx432_2, hx432_3, hx432_4⟩ := at_T95 HR1.out x5_1 p432 q432
        have hw432_4 := hx432_4
        have hw432_3 := hx432_3
        have hw432_2 := hx432_2
        have hw432_1 := hx432_1
        have hw432_0 := hx432_0
        cases e432
        replace hx432_0 := hc HB hx432_0
        replace hx432_1 := hc HB hx432_1
        replace hx432_2 := hc HB hx432_2
        replace hx432_3 := hc HB hx432_3
        replace hx432_4 := hc HB hx432_4
        replace p432 := eq_true p432
        replace q432 := eq_true q432
        refine start_ (n := 10) (S := fun w' => w'.cell? (ad431.add ((x5_1).toNat * 5)) = some (.int .i64 ((rd_T95 l0 x5_1).f0)) ∧ w'.cell? ⟨(ad431.add ((x5_1).toNat * 5)).block, (ad431.add ((x5_1).toNat * 5)).off + 1, none⟩ = some (.int .i64 ((rd_T95 l0 x5_1).f1)) ∧ w'.cell? ⟨(ad431.add ((x5_1).toNat * 5)).block, (ad431.add ((x5_1).toNat * 5)).off + 2, none⟩ = some (.int .i64 ((rd_T95 l0 x5_1).f2)) ∧ w'.cell? ⟨(ad431.add ((x5_1).toNat * 5)).block, (ad431.add ((x5_1).toNat * 5)).off + 3, none⟩ = some (.int .i64 ((rd_T95 l0 x5_1).f3)) ∧ w'.cell? ⟨(ad431.add ((x5_1).toNat * 5)).block, (ad431.add ((x5_1).toNat * 5)).off + 4, none⟩ = some (.int .i64 ((rd_T95 l0 x5_1).f4)) ∧ w'.cell? (ad432.add ((x5_1).toNat * 5)) = some (.int .i64 ((rd_T95 l1 x5_1).f0)) ∧ w'.cell? ⟨(ad432.add ((x5_1).toNat * 5)).block, (ad432.add ((x5_1).toNat * 5)).off + 1, none⟩ = some (.int .i64 ((rd_T95 l1 x5_1).f1)) ∧ w'.cell? ⟨(ad432.add ((x5_1).toNat * 5)).block, (ad432.add ((x5_1).toNat * 5)).off + 2, none⟩ = some (.int .i64 ((rd_T95 l1 x5_1).f2)) ∧ w'.cell? ⟨(ad432.add ((x5_1).toNat * 5)).block, (ad432.add ((x5_1).toNat * 5)).off + 3, none⟩ = some (.int .i64 ((rd_T95 l1 x5_1).f3)) ∧ w'.cell? ⟨(ad432.add ((x5_1).toNat * 5)).block, (ad432.add ((x5_1).toNat * 5)).off + 4, none⟩ = some (.int .i64 ((rd_T95 l1 x5_1).f4))) (ds := []) #[false, false, false, false, false, false, false, false, false, false] (by kernel_rfl) rfl rfl ⟨(hc HB hw431_0), (hc HB hw431_1), (hc HB hw431_2), (hc HB hw431_3), (hc HB hw431_4), (hc HB hw432_0), (hc HB hw432_1), (hc HB hw432_2), (hc HB hw432_3), (hc HB hw432_4)⟩ (fun hHeld => ?_); refine with_tabW laws_eqGameS.tab6 laws_eqGameS.bits6 (fun HT_ HW_ => ?_)
        generalize wr.drew = w11 at HB hx431_0 hx431_1 hx431_2 hx431_3 hx431_4 hx432_0 hx432_1 hx432_2 hx432_3 hx432_4 hHeld ⊢
        refine pz_ 0 17 ?_
        refine pz_ 1 18 ?_
        refine pz_ 2 19 ?_
        refine pz_ 4 21 ?_
        refine pz_ 5 22 ?_
        refine pz_ 6 23 ?_
        refine tk_ 3 20 ?_
        refine tk_ 7 24 ?_
        refine one_ (i := 8) (N := some 25) #[true, true, true, true, true, true, true, true, true, false] rfl rfl (one_of HT_.out (by kernel_rfl)) (by decide) (fun K hK => ?_)
        refine goes_ Try.func129 (by kernel_rfl) rfl #[.agg #[.int .i64 ((rd_T95 l0 x5_1).f0), .int .i64 ((rd_T95 l0 x5_1).f1), .int .i64 ((rd_T95 l0 x5_1).f2), .int .i64 ((rd_T95 l0 x5_1).f3), .int .i64 ((rd_T95 l0 x5_1).f4)], .agg #[.int .i64 ((rd_T95 l1 x5_1).f0), .int .i64 ((rd_T95 l1 x5_1).f1), .int .i64 ((rd_T95 l1 x5_1).f2), .int .i64 ((rd_T95 l1 x5_1).f3), .int .i64 ((rd_T95 l1 x5_1).f4)]] (by rfl) rfl rfl (by (try simp only [List.map_toArray, List.map_cons, List.map_nil]); first | done | rfl | (simp only [List.length_drop, List.length_take]; rfl)) ?_
        with_reducible refine (laws_eqGame.calls ((rd_T95 l0 x5_1).f0) ((rd_T95 l0 x5_1).f1) ((rd_T95 l0 x5_1).f2) ((rd_T95 l0 x5_1).f3) ((rd_T95 l0 x5_1).f4) ((rd_T95 l1 x5_1).f0) ((rd_T95 l1 x5_1).f1) ((rd_T95 l1 x5_1).f2) ((rd_T95 l1 x5_1).f3) ((rd_T95 l1 x5_1).f4) false _ A7.out).mono ?_
        rintro e w12 ⟨rfl, hb⟩
        refine ⟨_, rfl, ?_⟩
        replace HB := hs_ HB hb
        (try clear hb hb2 hk hi)
        refine hK.out _ _ ⟨(hc HB hw431_0), (hc HB hw431_1), (hc HB hw431_2), (hc HB hw431_3), (hc HB hw431_4), (hc HB hw432_0), (hc HB hw432_1), (hc HB hw432_2), (hc HB hw432_3), (hc HB hw432_4)⟩ (fun hHeld => ?_)
        clear hK K
        refine norm_ (a' := ?_) ?_ ?_
        rotate_left
        ·show Act.put _ (some 25) _ = _
         simp only [Act.put, List.setIfInBounds_toArray, List.set_cons_zero, List.set_cons_succ, i64_w, i32_w]
         rfl
        refine pz_ 9 26 ?_
        refine done_ (done_of HT_.out (by kernel_rfl)) ?_
        try go_wp2
        go_ret
        exact ⟨ee, bb HB⟩
      ·rw [if_neg c6] at H
       exact absurd H (by simp)
     ·rw [if_neg c5] at H
      exact absurd H (by simp)
    ·rw [if_neg c4] at H
     have c4b0 : decide (x5_1 < (l0.length : Int)) = false := decide_eq_false c4
     clear c4
     obtain rfl := Option.some.inj H
     go_wp2
     go_ret
     exact ⟨ee, bb HB⟩
 ·rw [if_neg c3] at H
  have c3b0 : ((l0.length : Int) == (l1.length : Int)) = false := beq_eq_false_iff_ne.mpr c3
  have c3b1 : ((l0.length : Int) != (l1.length : Int)) = true := bne_iff_ne.mpr c3
  have c3b2 : (l0.length == l1.length) = false := by first | simpa using c3 | (simp at c3 ⊢; omega)
  obtain rfl := Option.some.inj H
  go_enter Try.func66, Try.ntmps66
  go_wp2
  go_ret
  exact ⟨ee, bb HB⟩
def laws_eqBook.f (k : Nat) (l0_0 : List (S139)) (a0_1 : Int) (a0_2 : Int) (a0_3 : Int) (l0_4 : List Int) (a0_5 : Bool) (l0_6 : List (S95)) (l0_7 : List Int) (l0_8 : List Int) (l1_0 : List (S139)) (a1_1 : Int) (a1_2 : Int) (a1_3 : Int) (l1_4 : List Int) (a1_5 : Bool) (l1_6 : List (S95)) (l1_7 : List Int) (l1_8 : List Int) : Option (Bool) := (laws_eqTeamS.f k l0_0 l1_0).bind fun t436 => (if t436 = true then ((laws_eqRules.f k a0_1 a0_2 a0_3 l0_4 a0_5 a1_1 a1_2 a1_3 l1_4 a1_5).bind fun t437 => (if t437 = true then ((laws_eqGameS.f k l0_6 l1_6).bind fun t438 => (if t438 = true then ((laws_eqIntS.f k l0_7 l1_7).bind fun t439 => (if t439 = true then ((laws_eqIntS.f k l0_8 l1_8).bind fun t440 => (if t440 = true then (some true) else (some false))) else (some false))) else (some false))) else (some false))) else (some false))
theorem laws_eqBook.calls (k : Nat) (A0_0 : Option Addr) (c0_0 : Nat) (l0_0 : List (S139)) (a0_1 : Int) (a0_2 : Int) (a0_3 : Int) (A0_4 : Option Addr) (c0_4 : Nat) (l0_4 : List Int) (a0_5 : Bool) (A0_6 : Option Addr) (c0_6 : Nat) (l0_6 : List (S95)) (A0_7 : Option Addr) (c0_7 : Nat) (l0_7 : List Int) (A0_8 : Option Addr) (c0_8 : Nat) (l0_8 : List Int) (A1_0 : Option Addr) (c1_0 : Nat) (l1_0 : List (S139)) (a1_1 : Int) (a1_2 : Int) (a1_3 : Int) (A1_4 : Option Addr) (c1_4 : Nat) (l1_4 : List Int) (a1_5 : Bool) (A1_6 : Option Addr) (c1_6 : Nat) (l1_6 : List (S95)) (A1_7 : Option Addr) (c1_7 : Nat) (l1_7 : List Int) (A1_8 : Option Addr) (c1_8 : Nat) (l1_8 : List Int) (r : Bool) (w : World) (hr0_0 : Kd.C k139 w A0_0 l0_0.length l0_0) (hc0_0 : l0_0.length ≤ c0_0) (hr0_4 : Kd.C (Kd.int .i64) w A0_4 l0_4.length l0_4) (hc0_4 : l0_4.length ≤ c0_4) (hr0_6 : Kd.C k95 w A0_6 l0_6.length l0_6) (hc0_6 : l0_6.length ≤ c0_6) (hr0_7 : Kd.C (Kd.int .i64) w A0_7 l0_7.length l0_7) (hc0_7 : l0_7.length ≤ c0_7) (hr0_8 : Kd.C (Kd.int .i64) w A0_8 l0_8.length l0_8) (hc0_8 : l0_8.length ≤ c0_8) (hr1_0 : Kd.C k139 w A1_0 l1_0.length l1_0) (hc1_0 : l1_0.length ≤ c1_0) (hr1_4 : Kd.C (Kd.int .i64) w A1_4 l1_4.length l1_4) (hc1_4 : l1_4.length ≤ c1_4) (hr1_6 : Kd.C k95 w A1_6 l1_6.length l1_6) (hc1_6 : l1_6.length ≤ c1_6) (hr1_7 : Kd.C (Kd.int .i64) w A1_7 l1_7.length l1_7) (hc1_7 : l1_7.length ≤ c1_7) (hr1_8 : Kd.C (Kd.int .i64) w A1_8 l1_8.length l1_8) (hc1_8 : l1_8.length ≤ c1_8) (h : laws_eqBook.f k l0_0 a0_1 a0_2 a0_3 l0_4 a0_5 l0_6 l0_7 l0_8 l1_0 a1_1 a1_2 a1_3 l1_4 a1_5 l1_6 l1_7 l1_8 = some r) :
  Calls Try.prog 16 #[.agg #[.slice A0_0 l0_0.length c0_0, .int .i64 a0_1, .int .i64 a0_2, .int .i64 a0_3, .slice A0_4 l0_4.length c0_4, .bool a0_5, .slice A0_6 l0_6.length c0_6, .slice A0_7 l0_7.length c0_7, .slice A0_8 l0_8.length c0_8], .agg #[.slice A1_0 l1_0.length c1_0, .int .i64 a1_1, .int .i64 a1_2, .int .i64 a1_3, .slice A1_4 l1_4.length c1_4, .bool a1_5, .slice A1_6 l1_6.length c1_6, .slice A1_7 l1_7.length c1_7, .slice A1_8 l1_8.length c1_8]] w fun e w' => e = .returned (.bool r) ∧ Below w.heap.size w w' := by
 have hu36 := Try.underlying36
 have hu33 := Try.underlying33
 have HR0_0 := dk hr0_0
 have HC0_0 := dk hc0_0
 clear hr0_0 hc0_0
 have HR0_4 := dk hr0_4
 have HC0_4 := dk hc0_4
 clear hr0_4 hc0_4
 have HR0_6 := dk hr0_6
 have HC0_6 := dk hc0_6
 clear hr0_6 hc0_6
 have HR0_7 := dk hr0_7
 have HC0_7 := dk hc0_7
 clear hr0_7 hc0_7
 have HR0_8 := dk hr0_8
 have HC0_8 := dk hc0_8
 clear hr0_8 hc0_8
 have HR1_0 := dk hr1_0
 have HC1_0 := dk hc1_0
 clear hr1_0 hc1_0
 have HR1_4 := dk hr1_4
 have HC1_4 := dk hc1_4
 clear hr1_4 hc1_4
 have HR1_6 := dk hr1_6
 have HC1_6 := dk hc1_6
 clear hr1_6 hc1_6
 have HR1_7 := dk hr1_7
 have HC1_7 := dk hc1_7
 clear hr1_7 hc1_7
 have HR1_8 := dk hr1_8
 have HC1_8 := dk hc1_8
 clear hr1_8 hc1_8
 have HB := dk (Below.refl w.heap.size w)
 have H : ((laws_eqTeamS.f k l0_0 l1_0).bind fun t436 => (if t436 = true then ((laws_eqRules.f k a0_1 a0_2 a0_3 l0_4 a0_5 a1_1 a1_2 a1_3 l1_4 a1_5).bind fun t437 => (if t437 = true then ((laws_eqGameS.f k l0_6 l1_6).bind fun t438 => (if t438 = true then ((laws_eqIntS.f k l0_7 l1_7).bind fun t439 => (if t439 = true then ((laws_eqIntS.f k l0_8 l1_8).bind fun t440 => (if t440 = true then (some true) else (some false))) else (some false))) else (some false))) else (some false))) else (some false))) = some r := h
 clear h
 replace H := Option.bind_eq_some_iff.mp H
 obtain ⟨t436, A30, H⟩ := H
 try dsimp only at H
 have A3 := dk A30
 clear A30
 by_cases c4 : t436 = true
 ·subst c4
  rw [if_pos rfl] at H
  replace H := Option.bind_eq_some_iff.mp H
  obtain ⟨t437, A50, H⟩ := H
  try dsimp only at H
  have A5 := dk A50
  clear A50
  by_cases c6 : t437 = true
  ·subst c6
   rw [if_pos rfl] at H
   replace H := Option.bind_eq_some_iff.mp H
   obtain ⟨t438, A70, H⟩ := H
   try dsimp only at H
   have A7 := dk A70
   clear A70
   by_cases c8 : t438 = true
   ·subst c8
    rw [if_pos rfl] at H
    replace H := Option.bind_eq_some_iff.mp H
    obtain ⟨t439, A90, H⟩ := H
    try dsimp only at H
    have A9 := dk A90
    clear A90
    by_cases c10 : t439 = true
    ·subst c10
     rw [if_pos rfl] at H
     replace H := Option.bind_eq_some_iff.mp H
     obtain ⟨t440, A110, H⟩ := H
     try dsimp only at H
     have A11 := dk A110
     clear A110
     by_cases c12 : t440 = true
     ·subst c12
      rw [if_pos rfl] at H
      obtain rfl := Option.some.inj H
      go_enter Try.func16, Try.ntmps16
      go_wp2_with (first | ((with_reducible refine gate_dst (N := 2) rfl ?_); refine bx (N := 2) (cs := #[.slice A0_0 l0_0.length c0_0, .int .i64 a0_1, .int .i64 a0_2, .int .i64 a0_3, .slice A0_4 l0_4.length c0_4, .bool a0_5, .slice A0_6 l0_6.length c0_6, .slice A0_7 l0_7.length c0_7, .slice A0_8 l0_8.length c0_8]) (t := 36) ?_; intro gb434 hg w13 hbox hb; have BK434 := dk (hbox); have GW434 := gs hg HB; have GE434 := gs hg HB; replace HB := hs_ HB hb; clear hb hbox hg) | ((with_reducible refine gate_dst (N := 3) rfl ?_); refine bx (N := 3) (cs := #[.slice A1_0 l1_0.length c1_0, .int .i64 a1_1, .int .i64 a1_2, .int .i64 a1_3, .slice A1_4 l1_4.length c1_4, .bool a1_5, .slice A1_6 l1_6.length c1_6, .slice A1_7 l1_7.length c1_7, .slice A1_8 l1_8.length c1_8]) (t := 36) ?_; intro gb435 hg w14 hbox hb; have BK435 := dk (hbox); have GW435 := gs hg HB; have GE435 := gs hg HB; replace HB := hs_ HB hb; have NB434_435 := gn hg BK434; have NB435_434 := gm hg BK434; replace BK434 := kb BK434 hb; clear hb hbox hg; have hnb15 := NB434_435.out; have hnc15 := NB435_434.out; have ⟨z16_0, z16_1, z16_2, z16_3, z16_4, z16_5, z16_6, z16_7, z16_8, v16_0, v16_1, v16_2, v16_3, v16_4, v16_5, v16_6, v16_7, v16_8⟩ := rz9 BK434; have ⟨z17_0, z17_1, z17_2, z17_3, z17_4, z17_5, z17_6, z17_7, z17_8, v17_0, v17_1, v17_2, v17_3, v17_4, v17_5, v17_6, v17_7, v17_8⟩ := rz9 BK435) | ((with_reducible refine gate_callee (f := 50) rfl ?_); refine gl (some 9) Try.func50 #[.slice A0_0 l0_0.length c0_0, .slice A1_0 l1_0.length c1_0] ?_; (with_reducible refine (laws_eqTeamS.calls k _ _ l0_0 _ _ l1_0 true _ ?side1 ?side2 ?side3 ?side4 A3.out).mono ?_); (case side1 => exact cc HR0_0 HB); (case side2 => exact HC0_0.out); (case side3 => exact cc HR1_0 HB); (case side4 => exact HC1_0.out); rintro e w18 ⟨rfl, hb⟩; refine ⟨_, rfl, ?_⟩; replace BK434 := kb BK434 hb; replace BK435 := kb BK435 hb; replace HB := hs_ HB hb; (try clear hb hb2 hk hi); have ⟨z19_0, z19_1, z19_2, z19_3, z19_4, z19_5, z19_6, z19_7, z19_8, v19_0, v19_1, v19_2, v19_3, v19_4, v19_5, v19_6, v19_7, v19_8⟩ := rz9 BK434; have ⟨z20_0, z20_1, z20_2, z20_3, z20_4, z20_5, z20_6, z20_7, z20_8, v20_0, v20_1, v20_2, v20_3, v20_4, v20_5, v20_6, v20_7, v20_8⟩ := rz9 BK435) | ((with_reducible refine gate_callee (f := 65) rfl ?_); refine gl (some 15) Try.func65 #[.agg #[.int .i64 a0_1, .int .i64 a0_2, .int .i64 a0_3, .slice A0_4 l0_4.length c0_4, .bool a0_5], .agg #[.int .i64 a1_1, .int .i64 a1_2, .int .i64 a1_3, .slice A1_4 l1_4.length c1_4, .bool a1_5]] ?_; (with_reducible refine (laws_eqRules.calls k a0_1 a0_2 a0_3 _ _ l0_4 a0_5 a1_1 a1_2 a1_3 _ _ l1_4 a1_5 true _ ?side1 ?side2 ?side3 ?side4 A5.out).mono ?_); (case side1 => exact cc HR0_4 HB); (case side2 => exact HC0_4.out); (case side3 => exact cc HR1_4 HB); (case side4 => exact HC1_4.out); rintro e w21 ⟨rfl, hb⟩; refine ⟨_, rfl, ?_⟩; replace BK434 := kb BK434 hb; replace BK435 := kb BK435 hb; replace HB := hs_ HB hb; (try clear hb hb2 hk hi); have ⟨z22_0, z22_1, z22_2, z22_3, z22_4, z22_5, z22_6, z22_7, z22_8, v22_0, v22_1, v22_2, v22_3, v22_4, v22_5, v22_6, v22_7, v22_8⟩ := rz9 BK434; have ⟨z23_0, z23_1, z23_2, z23_3, z23_4, z23_5, z23_6, z23_7, z23_8, v23_0, v23_1, v23_2, v23_3, v23_4, v23_5, v23_6, v23_7, v23_8⟩ := rz9 BK435) | ((with_reducible refine gate_callee (f := 66) rfl ?_); refine gl (some 21) Try.func66 #[.slice A0_6 l0_6.length c0_6, .slice A1_6 l1_6.length c1_6] ?_; (with_reducible refine (laws_eqGameS.calls k _ _ l0_6 _ _ l1_6 true _ ?side1 ?side2 ?side3 ?side4 A7.out).mono ?_); (case side1 => exact cc HR0_6 HB); (case side2 => exact HC0_6.out); (case side3 => exact cc HR1_6 HB); (case side4 => exact HC1_6.out); rintro e w24 ⟨rfl, hb⟩; refine ⟨_, rfl, ?_⟩; replace BK434 := kb BK434 hb; replace BK435 := kb BK435 hb; replace HB := hs_ HB hb; (try clear hb hb2 hk hi); have ⟨z25_0, z25_1, z25_2, z25_3, z25_4, z25_5, z25_6, z25_7, z25_8, v25_0, v25_1, v25_2, v25_3, v25_4, v25_5, v25_6, v25_7, v25_8⟩ := rz9 BK434; have ⟨z26_0, z26_1, z26_2, z26_3, z26_4, z26_5, z26_6, z26_7, z26_8, v26_0, v26_1, v26_2, v26_3, v26_4, v26_5, v26_6, v26_7, v26_8⟩ := rz9 BK435) | ((with_reducible refine gate_callee (f := 28) rfl ?_); refine gl (some 27) Try.func28 #[.slice A0_7 l0_7.length c0_7, .slice A1_7 l1_7.length c1_7] ?_; (with_reducible refine (laws_eqIntS.calls k _ _ l0_7 _ _ l1_7 true _ ?side1 ?side2 ?side3 ?side4 A9.out).mono ?_); (case side1 => exact cc HR0_7 HB); (case side2 => exact HC0_7.out); (case side3 => exact cc HR1_7 HB); (case side4 => exact HC1_7.out); rintro e w' ⟨rfl, ⟨nd, rfl⟩⟩; refine ⟨_, rfl, ?_⟩) | ((with_reducible refine gate_callee (f := 28) rfl ?_); refine gl (some 33) Try.func28 #[.slice A0_8 l0_8.length c0_8, .slice A1_8 l1_8.length c1_8] ?_; (with_reducible refine (laws_eqIntS.calls k _ _ l0_8 _ _ l1_8 true _ ?side1 ?side2 ?side3 ?side4 A11.out).mono ?_); (case side1 => repeat (first | exact (Kd.C_below HR0_8.out (bb HB)) | (with_reducible refine Kd.C_alloc ?_ _) | (with_reducible refine Kd.C_drewN ?_ _) | (with_reducible refine Kd.C_drew ?_))); (case side2 => exact HC0_8.out); (case side3 => repeat (first | exact (Kd.C_below HR1_8.out (bb HB)) | (with_reducible refine Kd.C_alloc ?_ _) | (with_reducible refine Kd.C_drewN ?_ _) | (with_reducible refine Kd.C_drew ?_))); (case side4 => exact HC1_8.out); rintro e w' ⟨rfl, ⟨nd, rfl⟩⟩; refine ⟨_, rfl, ?_⟩))
      go_ret
      exact ⟨ee, bb HB⟩
     ·replace c12 := Bool.eq_false_iff.mpr c12
      subst c12
      rw [if_neg (show ¬ (false = true) by decide)] at H
      obtain rfl := Option.some.inj H
      go_enter Try.func16, Try.ntmps16
      go_wp2_with (first | ((with_reducible refine gate_dst (N := 2) rfl ?_); refine bx (N := 2) (cs := #[.slice A0_0 l0_0.length c0_0, .int .i64 a0_1, .int .i64 a0_2, .int .i64 a0_3, .slice A0_4 l0_4.length c0_4, .bool a0_5, .slice A0_6 l0_6.length c0_6, .slice A0_7 l0_7.length c0_7, .slice A0_8 l0_8.length c0_8]) (t := 36) ?_; intro gb434 hg w27 hbox hb; have BK434 := dk (hbox); have GW434 := gs hg HB; have GE434 := gs hg HB; replace HB := hs_ HB hb; clear hb hbox hg) | ((with_reducible refine gate_dst (N := 3) rfl ?_); refine bx (N := 3) (cs := #[.slice A1_0 l1_0.length c1_0, .int .i64 a1_1, .int .i64 a1_2, .int .i64 a1_3, .slice A1_4 l1_4.length c1_4, .bool a1_5, .slice A1_6 l1_6.length c1_6, .slice A1_7 l1_7.length c1_7, .slice A1_8 l1_8.length c1_8]) (t := 36) ?_; intro gb435 hg w28 hbox hb; have BK435 := dk (hbox); have GW435 := gs hg HB; have GE435 := gs hg HB; replace HB := hs_ HB hb; have NB434_435 := gn hg BK434; have NB435_434 := gm hg BK434; replace BK434 := kb BK434 hb; clear hb hbox hg; have hnb29 := NB434_435.out; have hnc29 := NB435_434.out; have ⟨z30_0, z30_1, z30_2, z30_3, z30_4, z30_5, z30_6, z30_7, z30_8, v30_0, v30_1, v30_2, v30_3, v30_4, v30_5, v30_6, v30_7, v30_8⟩ := rz9 BK434; have ⟨z31_0, z31_1, z31_2, z31_3, z31_4, z31_5, z31_6, z31_7, z31_8, v31_0, v31_1, v31_2, v31_3, v31_4, v31_5, v31_6, v31_7, v31_8⟩ := rz9 BK435) | ((with_reducible refine gate_callee (f := 50) rfl ?_); refine gl (some 9) Try.func50 #[.slice A0_0 l0_0.length c0_0, .slice A1_0 l1_0.length c1_0] ?_; (with_reducible refine (laws_eqTeamS.calls k _ _ l0_0 _ _ l1_0 true _ ?side1 ?side2 ?side3 ?side4 A3.out).mono ?_); (case side1 => exact cc HR0_0 HB); (case side2 => exact HC0_0.out); (case side3 => exact cc HR1_0 HB); (case side4 => exact HC1_0.out); rintro e w32 ⟨rfl, hb⟩; refine ⟨_, rfl, ?_⟩; replace BK434 := kb BK434 hb; replace BK435 := kb BK435 hb; replace HB := hs_ HB hb; (try clear hb hb2 hk hi); have ⟨z33_0, z33_1, z33_2, z33_3, z33_4, z33_5, z33_6, z33_7, z33_8, v33_0, v33_1, v33_2, v33_3, v33_4, v33_5, v33_6, v33_7, v33_8⟩ := rz9 BK434; have ⟨z34_0, z34_1, z34_2, z34_3, z34_4, z34_5, z34_6, z34_7, z34_8, v34_0, v34_1, v34_2, v34_3, v34_4, v34_5, v34_6, v34_7, v34_8⟩ := rz9 BK435) | ((with_reducible refine gate_callee (f := 65) rfl ?_); refine gl (some 15) Try.func65 #[.agg #[.int .i64 a0_1, .int .i64 a0_2, .int .i64 a0_3, .slice A0_4 l0_4.length c0_4, .bool a0_5], .agg #[.int .i64 a1_1, .int .i64 a1_2, .int .i64 a1_3, .slice A1_4 l1_4.length c1_4, .bool a1_5]] ?_; (with_reducible refine (laws_eqRules.calls k a0_1 a0_2 a0_3 _ _ l0_4 a0_5 a1_1 a1_2 a1_3 _ _ l1_4 a1_5 true _ ?side1 ?side2 ?side3 ?side4 A5.out).mono ?_); (case side1 => exact cc HR0_4 HB); (case side2 => exact HC0_4.out); (case side3 => exact cc HR1_4 HB); (case side4 => exact HC1_4.out); rintro e w35 ⟨rfl, hb⟩; refine ⟨_, rfl, ?_⟩; replace BK434 := kb BK434 hb; replace BK435 := kb BK435 hb; replace HB := hs_ HB hb; (try clear hb hb2 hk hi); have ⟨z36_0, z36_1, z36_2, z36_3, z36_4, z36_5, z36_6, z36_7, z36_8, v36_0, v36_1, v36_2, v36_3, v36_4, v36_5, v36_6, v36_7, v36_8⟩ := rz9 BK434; have ⟨z37_0, z37_1, z37_2, z37_3, z37_4, z37_5, z37_6, z37_7, z37_8, v37_0, v37_1, v37_2, v37_3, v37_4, v37_5, v37_6, v37_7, v37_8⟩ := rz9 BK435) | ((with_reducible refine gate_callee (f := 66) rfl ?_); refine gl (some 21) Try.func66 #[.slice A0_6 l0_6.length c0_6, .slice A1_6 l1_6.length c1_6] ?_; (with_reducible refine (laws_eqGameS.calls k _ _ l0_6 _ _ l1_6 true _ ?side1 ?side2 ?side3 ?side4 A7.out).mono ?_); (case side1 => exact cc HR0_6 HB); (case side2 => exact HC0_6.out); (case side3 => exact cc HR1_6 HB); (case side4 => exact HC1_6.out); rintro e w38 ⟨rfl, hb⟩; refine ⟨_, rfl, ?_⟩; replace BK434 := kb BK434 hb; replace BK435 := kb BK435 hb; replace HB := hs_ HB hb; (try clear hb hb2 hk hi); have ⟨z39_0, z39_1, z39_2, z39_3, z39_4, z39_5, z39_6, z39_7, z39_8, v39_0, v39_1, v39_2, v39_3, v39_4, v39_5, v39_6, v39_7, v39_8⟩ := rz9 BK434; have ⟨z40_0, z40_1, z40_2, z40_3, z40_4, z40_5, z40_6, z40_7, z40_8, v40_0, v40_1, v40_2, v40_3, v40_4, v40_5, v40_6, v40_7, v40_8⟩ := rz9 BK435) | ((with_reducible refine gate_callee (f := 28) rfl ?_); refine gl (some 27) Try.func28 #[.slice A0_7 l0_7.length c0_7, .slice A1_7 l1_7.length c1_7] ?_; (with_reducible refine (laws_eqIntS.calls k _ _ l0_7 _ _ l1_7 true _ ?side1 ?side2 ?side3 ?side4 A9.out).mono ?_); (case side1 => exact cc HR0_7 HB); (case side2 => exact HC0_7.out); (case side3 => exact cc HR1_7 HB); (case side4 => exact HC1_7.out); rintro e w' ⟨rfl, ⟨nd, rfl⟩⟩; refine ⟨_, rfl, ?_⟩) | ((with_reducible refine gate_callee (f := 28) rfl ?_); refine gl (some 33) Try.func28 #[.slice A0_8 l0_8.length c0_8, .slice A1_8 l1_8.length c1_8] ?_; (with_reducible refine (laws_eqIntS.calls k _ _ l0_8 _ _ l1_8 false _ ?side1 ?side2 ?side3 ?side4 A11.out).mono ?_); (case side1 => repeat (first | exact (Kd.C_below HR0_8.out (bb HB)) | (with_reducible refine Kd.C_alloc ?_ _) | (with_reducible refine Kd.C_drewN ?_ _) | (with_reducible refine Kd.C_drew ?_))); (case side2 => exact HC0_8.out); (case side3 => repeat (first | exact (Kd.C_below HR1_8.out (bb HB)) | (with_reducible refine Kd.C_alloc ?_ _) | (with_reducible refine Kd.C_drewN ?_ _) | (with_reducible refine Kd.C_drew ?_))); (case side4 => exact HC1_8.out); rintro e w' ⟨rfl, ⟨nd, rfl⟩⟩; refine ⟨_, rfl, ?_⟩))
      go_ret
      exact ⟨ee, bb HB⟩
    ·replace c10 := Bool.eq_false_iff.mpr c10
     subst c10
     rw [if_neg (show ¬ (false = true) by decide)] at H
     obtain rfl := Option.some.inj H
     go_enter Try.func16, Try.ntmps16
     go_wp2_with (first | ((with_reducible refine gate_dst (N := 2) rfl ?_); refine bx (N := 2) (cs := #[.slice A0_0 l0_0.length c0_0, .int .i64 a0_1, .int .i64 a0_2, .int .i64 a0_3, .slice A0_4 l0_4.length c0_4, .bool a0_5, .slice A0_6 l0_6.length c0_6, .slice A0_7 l0_7.length c0_7, .slice A0_8 l0_8.length c0_8]) (t := 36) ?_; intro gb434 hg w41 hbox hb; have BK434 := dk (hbox); have GW434 := gs hg HB; have GE434 := gs hg HB; replace HB := hs_ HB hb; clear hb hbox hg) | ((with_reducible refine gate_dst (N := 3) rfl ?_); refine bx (N := 3) (cs := #[.slice A1_0 l1_0.length c1_0, .int .i64 a1_1, .int .i64 a1_2, .int .i64 a1_3, .slice A1_4 l1_4.length c1_4, .bool a1_5, .slice A1_6 l1_6.length c1_6, .slice A1_7 l1_7.length c1_7, .slice A1_8 l1_8.length c1_8]) (t := 36) ?_; intro gb435 hg w42 hbox hb; have BK435 := dk (hbox); have GW435 := gs hg HB; have GE435 := gs hg HB; replace HB := hs_ HB hb; have NB434_435 := gn hg BK434; have NB435_434 := gm hg BK434; replace BK434 := kb BK434 hb; clear hb hbox hg; have hnb43 := NB434_435.out; have hnc43 := NB435_434.out; have ⟨z44_0, z44_1, z44_2, z44_3, z44_4, z44_5, z44_6, z44_7, z44_8, v44_0, v44_1, v44_2, v44_3, v44_4, v44_5, v44_6, v44_7, v44_8⟩ := rz9 BK434; have ⟨z45_0, z45_1, z45_2, z45_3, z45_4, z45_5, z45_6, z45_7, z45_8, v45_0, v45_1, v45_2, v45_3, v45_4, v45_5, v45_6, v45_7, v45_8⟩ := rz9 BK435) | ((with_reducible refine gate_callee (f := 50) rfl ?_); refine gl (some 9) Try.func50 #[.slice A0_0 l0_0.length c0_0, .slice A1_0 l1_0.length c1_0] ?_; (with_reducible refine (laws_eqTeamS.calls k _ _ l0_0 _ _ l1_0 true _ ?side1 ?side2 ?side3 ?side4 A3.out).mono ?_); (case side1 => exact cc HR0_0 HB); (case side2 => exact HC0_0.out); (case side3 => exact cc HR1_0 HB); (case side4 => exact HC1_0.out); rintro e w46 ⟨rfl, hb⟩; refine ⟨_, rfl, ?_⟩; replace BK434 := kb BK434 hb; replace BK435 := kb BK435 hb; replace HB := hs_ HB hb; (try clear hb hb2 hk hi); have ⟨z47_0, z47_1, z47_2, z47_3, z47_4, z47_5, z47_6, z47_7, z47_8, v47_0, v47_1, v47_2, v47_3, v47_4, v47_5, v47_6, v47_7, v47_8⟩ := rz9 BK434; have ⟨z48_0, z48_1, z48_2, z48_3, z48_4, z48_5, z48_6, z48_7, z48_8, v48_0, v48_1, v48_2, v48_3, v48_4, v48_5, v48_6, v48_7, v48_8⟩ := rz9 BK435) | ((with_reducible refine gate_callee (f := 65) rfl ?_); refine gl (some 15) Try.func65 #[.agg #[.int .i64 a0_1, .int .i64 a0_2, .int .i64 a0_3, .slice A0_4 l0_4.length c0_4, .bool a0_5], .agg #[.int .i64 a1_1, .int .i64 a1_2, .int .i64 a1_3, .slice A1_4 l1_4.length c1_4, .bool a1_5]] ?_; (with_reducible refine (laws_eqRules.calls k a0_1 a0_2 a0_3 _ _ l0_4 a0_5 a1_1 a1_2 a1_3 _ _ l1_4 a1_5 true _ ?side1 ?side2 ?side3 ?side4 A5.out).mono ?_); (case side1 => exact cc HR0_4 HB); (case side2 => exact HC0_4.out); (case side3 => exact cc HR1_4 HB); (case side4 => exact HC1_4.out); rintro e w49 ⟨rfl, hb⟩; refine ⟨_, rfl, ?_⟩; replace BK434 := kb BK434 hb; replace BK435 := kb BK435 hb; replace HB := hs_ HB hb; (try clear hb hb2 hk hi); have ⟨z50_0, z50_1, z50_2, z50_3, z50_4, z50_5, z50_6, z50_7, z50_8, v50_0, v50_1, v50_2, v50_3, v50_4, v50_5, v50_6, v50_7, v50_8⟩ := rz9 BK434; have ⟨z51_0, z51_1, z51_2, z51_3, z51_4, z51_5, z51_6, z51_7, z51_8, v51_0, v51_1, v51_2, v51_3, v51_4, v51_5, v51_6, v51_7, v51_8⟩ := rz9 BK435) | ((with_reducible refine gate_callee (f := 66) rfl ?_); refine gl (some 21) Try.func66 #[.slice A0_6 l0_6.length c0_6, .slice A1_6 l1_6.length c1_6] ?_; (with_reducible refine (laws_eqGameS.calls k _ _ l0_6 _ _ l1_6 true _ ?side1 ?side2 ?side3 ?side4 A7.out).mono ?_); (case side1 => exact cc HR0_6 HB); (case side2 => exact HC0_6.out); (case side3 => exact cc HR1_6 HB); (case side4 => exact HC1_6.out); rintro e w52 ⟨rfl, hb⟩; refine ⟨_, rfl, ?_⟩; replace BK434 := kb BK434 hb; replace BK435 := kb BK435 hb; replace HB := hs_ HB hb; (try clear hb hb2 hk hi); have ⟨z53_0, z53_1, z53_2, z53_3, z53_4, z53_5, z53_6, z53_7, z53_8, v53_0, v53_1, v53_2, v53_3, v53_4, v53_5, v53_6, v53_7, v53_8⟩ := rz9 BK434; have ⟨z54_0, z54_1, z54_2, z54_3, z54_4, z54_5, z54_6, z54_7, z54_8, v54_0, v54_1, v54_2, v54_3, v54_4, v54_5, v54_6, v54_7, v54_8⟩ := rz9 BK435) | ((with_reducible refine gate_callee (f := 28) rfl ?_); refine gl (some 27) Try.func28 #[.slice A0_7 l0_7.length c0_7, .slice A1_7 l1_7.length c1_7] ?_; (with_reducible refine (laws_eqIntS.calls k _ _ l0_7 _ _ l1_7 false _ ?side1 ?side2 ?side3 ?side4 A9.out).mono ?_); (case side1 => exact cc HR0_7 HB); (case side2 => exact HC0_7.out); (case side3 => exact cc HR1_7 HB); (case side4 => exact HC1_7.out); rintro e w' ⟨rfl, ⟨nd, rfl⟩⟩; refine ⟨_, rfl, ?_⟩))
     go_ret
     exact ⟨ee, bb HB⟩
   ·replace c8 := Bool.eq_false_iff.mpr c8
    subst c8
    rw [if_neg (show ¬ (false = true) by decide)] at H
    obtain rfl := Option.some.inj H
    go_enter Try.func16, Try.ntmps16
    go_wp2_with (first | ((with_reducible refine gate_dst (N := 2) rfl ?_); refine bx (N := 2) (cs := #[.slice A0_0 l0_0.length c0_0, .int .i64 a0_1, .int .i64 a0_2, .int .i64 a0_3, .slice A0_4 l0_4.length c0_4, .bool a0_5, .slice A0_6 l0_6.length c0_6, .slice A0_7 l0_7.length c0_7, .slice A0_8 l0_8.length c0_8]) (t := 36) ?_; intro gb434 hg w55 hbox hb; have BK434 := dk (hbox); have GW434 := gs hg HB; have GE434 := gs hg HB; replace HB := hs_ HB hb; clear hb hbox hg) | ((with_reducible refine gate_dst (N := 3) rfl ?_); refine bx (N := 3) (cs := #[.slice A1_0 l1_0.length c1_0, .int .i64 a1_1, .int .i64 a1_2, .int .i64 a1_3, .slice A1_4 l1_4.length c1_4, .bool a1_5, .slice A1_6 l1_6.length c1_6, .slice A1_7 l1_7.length c1_7, .slice A1_8 l1_8.length c1_8]) (t := 36) ?_; intro gb435 hg w56 hbox hb; have BK435 := dk (hbox); have GW435 := gs hg HB; have GE435 := gs hg HB; replace HB := hs_ HB hb; have NB434_435 := gn hg BK434; have NB435_434 := gm hg BK434; replace BK434 := kb BK434 hb; clear hb hbox hg; have hnb57 := NB434_435.out; have hnc57 := NB435_434.out; have ⟨z58_0, z58_1, z58_2, z58_3, z58_4, z58_5, z58_6, z58_7, z58_8, v58_0, v58_1, v58_2, v58_3, v58_4, v58_5, v58_6, v58_7, v58_8⟩ := rz9 BK434; have ⟨z59_0, z59_1, z59_2, z59_3, z59_4, z59_5, z59_6, z59_7, z59_8, v59_0, v59_1, v59_2, v59_3, v59_4, v59_5, v59_6, v59_7, v59_8⟩ := rz9 BK435) | ((with_reducible refine gate_callee (f := 50) rfl ?_); refine gl (some 9) Try.func50 #[.slice A0_0 l0_0.length c0_0, .slice A1_0 l1_0.length c1_0] ?_; (with_reducible refine (laws_eqTeamS.calls k _ _ l0_0 _ _ l1_0 true _ ?side1 ?side2 ?side3 ?side4 A3.out).mono ?_); (case side1 => exact cc HR0_0 HB); (case side2 => exact HC0_0.out); (case side3 => exact cc HR1_0 HB); (case side4 => exact HC1_0.out); rintro e w60 ⟨rfl, hb⟩; refine ⟨_, rfl, ?_⟩; replace BK434 := kb BK434 hb; replace BK435 := kb BK435 hb; replace HB := hs_ HB hb; (try clear hb hb2 hk hi); have ⟨z61_0, z61_1, z61_2, z61_3, z61_4, z61_5, z61_6, z61_7, z61_8, v61_0, v61_1, v61_2, v61_3, v61_4, v61_5, v61_6, v61_7, v61_8⟩ := rz9 BK434; have ⟨z62_0, z62_1, z62_2, z62_3, z62_4, z62_5, z62_6, z62_7, z62_8, v62_0, v62_1, v62_2, v62_3, v62_4, v62_5, v62_6, v62_7, v62_8⟩ := rz9 BK435) | ((with_reducible refine gate_callee (f := 65) rfl ?_); refine gl (some 15) Try.func65 #[.agg #[.int .i64 a0_1, .int .i64 a0_2, .int .i64 a0_3, .slice A0_4 l0_4.length c0_4, .bool a0_5], .agg #[.int .i64 a1_1, .int .i64 a1_2, .int .i64 a1_3, .slice A1_4 l1_4.length c1_4, .bool a1_5]] ?_; (with_reducible refine (laws_eqRules.calls k a0_1 a0_2 a0_3 _ _ l0_4 a0_5 a1_1 a1_2 a1_3 _ _ l1_4 a1_5 true _ ?side1 ?side2 ?side3 ?side4 A5.out).mono ?_); (case side1 => exact cc HR0_4 HB); (case side2 => exact HC0_4.out); (case side3 => exact cc HR1_4 HB); (case side4 => exact HC1_4.out); rintro e w63 ⟨rfl, hb⟩; refine ⟨_, rfl, ?_⟩; replace BK434 := kb BK434 hb; replace BK435 := kb BK435 hb; replace HB := hs_ HB hb; (try clear hb hb2 hk hi); have ⟨z64_0, z64_1, z64_2, z64_3, z64_4, z64_5, z64_6, z64_7, z64_8, v64_0, v64_1, v64_2, v64_3, v64_4, v64_5, v64_6, v64_7, v64_8⟩ := rz9 BK434; have ⟨z65_0, z65_1, z65_2, z65_3, z65_4, z65_5, z65_6, z65_7, z65_8, v65_0, v65_1, v65_2, v65_3, v65_4, v65_5, v65_6, v65_7, v65_8⟩ := rz9 BK435) | ((with_reducible refine gate_callee (f := 66) rfl ?_); refine gl (some 21) Try.func66 #[.slice A0_6 l0_6.length c0_6, .slice A1_6 l1_6.length c1_6] ?_; (with_reducible refine (laws_eqGameS.calls k _ _ l0_6 _ _ l1_6 false _ ?side1 ?side2 ?side3 ?side4 A7.out).mono ?_); (case side1 => exact cc HR0_6 HB); (case side2 => exact HC0_6.out); (case side3 => exact cc HR1_6 HB); (case side4 => exact HC1_6.out); rintro e w66 ⟨rfl, hb⟩; refine ⟨_, rfl, ?_⟩; replace BK434 := kb BK434 hb; replace BK435 := kb BK435 hb; replace HB := hs_ HB hb; (try clear hb hb2 hk hi)))
    go_ret
    exact ⟨ee, bb HB⟩
  ·replace c6 := Bool.eq_false_iff.mpr c6
   subst c6
   rw [if_neg (show ¬ (false = true) by decide)] at H
   obtain rfl := Option.some.inj H
   go_enter Try.func16, Try.ntmps16
   go_wp2_with (first | ((with_reducible refine gate_dst (N := 2) rfl ?_); refine bx (N := 2) (cs := #[.slice A0_0 l0_0.length c0_0, .int .i64 a0_1, .int .i64 a0_2, .int .i64 a0_3, .slice A0_4 l0_4.length c0_4, .bool a0_5, .slice A0_6 l0_6.length c0_6, .slice A0_7 l0_7.length c0_7, .slice A0_8 l0_8.length c0_8]) (t := 36) ?_; intro gb434 hg w67 hbox hb; have BK434 := dk (hbox); have GW434 := gs hg HB; have GE434 := gs hg HB; replace HB := hs_ HB hb; clear hb hbox hg) | ((with_reducible refine gate_dst (N := 3) rfl ?_); refine bx (N := 3) (cs := #[.slice A1_0 l1_0.length c1_0, .int .i64 a1_1, .int .i64 a1_2, .int .i64 a1_3, .slice A1_4 l1_4.length c1_4, .bool a1_5, .slice A1_6 l1_6.length c1_6, .slice A1_7 l1_7.length c1_7, .slice A1_8 l1_8.length c1_8]) (t := 36) ?_; intro gb435 hg w68 hbox hb; have BK435 := dk (hbox); have GW435 := gs hg HB; have GE435 := gs hg HB; replace HB := hs_ HB hb; have NB434_435 := gn hg BK434; have NB435_434 := gm hg BK434; replace BK434 := kb BK434 hb; clear hb hbox hg; have hnb69 := NB434_435.out; have hnc69 := NB435_434.out; have ⟨z70_0, z70_1, z70_2, z70_3, z70_4, z70_5, z70_6, z70_7, z70_8, v70_0, v70_1, v70_2, v70_3, v70_4, v70_5, v70_6, v70_7, v70_8⟩ := rz9 BK434; have ⟨z71_0, z71_1, z71_2, z71_3, z71_4, z71_5, z71_6, z71_7, z71_8, v71_0, v71_1, v71_2, v71_3, v71_4, v71_5, v71_6, v71_7, v71_8⟩ := rz9 BK435) | ((with_reducible refine gate_callee (f := 50) rfl ?_); refine gl (some 9) Try.func50 #[.slice A0_0 l0_0.length c0_0, .slice A1_0 l1_0.length c1_0] ?_; (with_reducible refine (laws_eqTeamS.calls k _ _ l0_0 _ _ l1_0 true _ ?side1 ?side2 ?side3 ?side4 A3.out).mono ?_); (case side1 => exact cc HR0_0 HB); (case side2 => exact HC0_0.out); (case side3 => exact cc HR1_0 HB); (case side4 => exact HC1_0.out); rintro e w72 ⟨rfl, hb⟩; refine ⟨_, rfl, ?_⟩; replace BK434 := kb BK434 hb; replace BK435 := kb BK435 hb; replace HB := hs_ HB hb; (try clear hb hb2 hk hi); have ⟨z73_0, z73_1, z73_2, z73_3, z73_4, z73_5, z73_6, z73_7, z73_8, v73_0, v73_1, v73_2, v73_3, v73_4, v73_5, v73_6, v73_7, v73_8⟩ := rz9 BK434; have ⟨z74_0, z74_1, z74_2, z74_3, z74_4, z74_5, z74_6, z74_7, z74_8, v74_0, v74_1, v74_2, v74_3, v74_4, v74_5, v74_6, v74_7, v74_8⟩ := rz9 BK435) | ((with_reducible refine gate_callee (f := 65) rfl ?_); refine gl (some 15) Try.func65 #[.agg #[.int .i64 a0_1, .int .i64 a0_2, .int .i64 a0_3, .slice A0_4 l0_4.length c0_4, .bool a0_5], .agg #[.int .i64 a1_1, .int .i64 a1_2, .int .i64 a1_3, .slice A1_4 l1_4.length c1_4, .bool a1_5]] ?_; (with_reducible refine (laws_eqRules.calls k a0_1 a0_2 a0_3 _ _ l0_4 a0_5 a1_1 a1_2 a1_3 _ _ l1_4 a1_5 false _ ?side1 ?side2 ?side3 ?side4 A5.out).mono ?_); (case side1 => exact cc HR0_4 HB); (case side2 => exact HC0_4.out); (case side3 => exact cc HR1_4 HB); (case side4 => exact HC1_4.out); rintro e w75 ⟨rfl, hb⟩; refine ⟨_, rfl, ?_⟩; replace BK434 := kb BK434 hb; replace BK435 := kb BK435 hb; replace HB := hs_ HB hb; (try clear hb hb2 hk hi)))
   go_ret
   exact ⟨ee, bb HB⟩
 ·replace c4 := Bool.eq_false_iff.mpr c4
  subst c4
  rw [if_neg (show ¬ (false = true) by decide)] at H
  obtain rfl := Option.some.inj H
  go_enter Try.func16, Try.ntmps16
  go_wp2_with (first | ((with_reducible refine gate_dst (N := 2) rfl ?_); refine bx (N := 2) (cs := #[.slice A0_0 l0_0.length c0_0, .int .i64 a0_1, .int .i64 a0_2, .int .i64 a0_3, .slice A0_4 l0_4.length c0_4, .bool a0_5, .slice A0_6 l0_6.length c0_6, .slice A0_7 l0_7.length c0_7, .slice A0_8 l0_8.length c0_8]) (t := 36) ?_; intro gb434 hg w76 hbox hb; have BK434 := dk (hbox); have GW434 := gs hg HB; have GE434 := gs hg HB; replace HB := hs_ HB hb; clear hb hbox hg) | ((with_reducible refine gate_dst (N := 3) rfl ?_); refine bx (N := 3) (cs := #[.slice A1_0 l1_0.length c1_0, .int .i64 a1_1, .int .i64 a1_2, .int .i64 a1_3, .slice A1_4 l1_4.length c1_4, .bool a1_5, .slice A1_6 l1_6.length c1_6, .slice A1_7 l1_7.length c1_7, .slice A1_8 l1_8.length c1_8]) (t := 36) ?_; intro gb435 hg w77 hbox hb; have BK435 := dk (hbox); have GW435 := gs hg HB; have GE435 := gs hg HB; replace HB := hs_ HB hb; have NB434_435 := gn hg BK434; have NB435_434 := gm hg BK434; replace BK434 := kb BK434 hb; clear hb hbox hg; have hnb78 := NB434_435.out; have hnc78 := NB435_434.out; have ⟨z79_0, z79_1, z79_2, z79_3, z79_4, z79_5, z79_6, z79_7, z79_8, v79_0, v79_1, v79_2, v79_3, v79_4, v79_5, v79_6, v79_7, v79_8⟩ := rz9 BK434; have ⟨z80_0, z80_1, z80_2, z80_3, z80_4, z80_5, z80_6, z80_7, z80_8, v80_0, v80_1, v80_2, v80_3, v80_4, v80_5, v80_6, v80_7, v80_8⟩ := rz9 BK435) | ((with_reducible refine gate_callee (f := 50) rfl ?_); refine gl (some 9) Try.func50 #[.slice A0_0 l0_0.length c0_0, .slice A1_0 l1_0.length c1_0] ?_; (with_reducible refine (laws_eqTeamS.calls k _ _ l0_0 _ _ l1_0 false _ ?side1 ?side2 ?side3 ?side4 A3.out).mono ?_); (case side1 => exact cc HR0_0 HB); (case side2 => exact HC0_0.out); (case side3 => exact cc HR1_0 HB); (case side4 => exact HC1_0.out); rintro e w81 ⟨rfl, hb⟩; refine ⟨_, rfl, ?_⟩; replace BK434 := kb BK434 hb; replace BK435 := kb BK435 hb; replace HB := hs_ HB hb; (try clear hb hb2 hk hi)))
  go_ret
  exact ⟨ee, bb HB⟩
def laws_markIntS.l0 : Nat → List Int → Int → Int → Option (Int × List Int)
 | 0, _, _, _ => none
 | k + 1, x0, x1, x5 => if x5 < (x0.length : Int) then (if 0 ≤ x5 then (laws_markIntS.l0 k (x0.set (x5 : Int).toNat x1) (wrap64 (x1 + 1)) (wrap64 (x5 + 1))) else (none)) else (some (x1, x0))
def laws_markIntS.f (k : Nat) (l0 : List Int) (a1 : Int) : Option (Int × List Int) := laws_markIntS.l0 k l0 a1 0
theorem laws_markIntS.calls (k : Nat) (P0_ : Nat → Prop) (u9000_ : Value) (l0 : List Int) (a1 : Int) (r1 : Int) (r2 : List Int) (w0 w : World) (hB : Below w0.heap.size w0 w) (ho0 : Kd.R (Kd.int .i64) 3 w w0.heap.size P0_ u9000_ l0) (h : laws_markIntS.f k l0 a1 = some (r1, r2)) :
  Calls Try.prog 29 #[u9000_, .int .i64 a1] w fun e w' => e = .returned (.int .i64 r1) ∧ Kd.R (Kd.int .i64) 3 w' w0.heap.size (fun k_ => (P0_ k_ ∨ w.heap.size ≤ k_)) u9000_ r2 ∧ Below w0.heap.size w0 w' ∧ Kept w w' (fun k_ => P0_ k_) := by
 have HO0 := dk (show Kd.R (Kd.int .i64) 3 w w0.heap.size (fun k_ => (P0_ k_ ∨ w.heap.size ≤ k_)) u9000_ l0 from Kd.R_mono ho0 (fun k_ hk => (.inl hk)))
 have HK := dk (Kept.refl w (fun k_ => P0_ k_))
 have HW0 := dk hB.size
 have HB := dk hB
 clear hB
 have H : (laws_markIntS.l0 k l0 a1 0) = some (r1, r2) := h
 clear h
 have H' := dk H
 clear H
 go_enter Try.func29, Try.ntmps29
 go_wp2
 go_loopg [1, 5] k (fun kq v1 v5 w' => ∃ (x0_1 : List Int) (x1_1 : Int) (x5_1 : Int), v1 = .int .i64 x1_1 ∧ v5 = .int .i64 x5_1 ∧ Aside0 (laws_markIntS.l0 kq x0_1 x1_1 x5_1 = some (r1, r2)) ∧ Aside0 (kq ≤ k) ∧ Aside0 (Kd.R (Kd.int .i64) 3 w' w0.heap.size (fun k_ => (P0_ k_ ∨ w.heap.size ≤ k_)) u9000_ x0_1) ∧ Aside0 (Kept w w' (fun k_ => P0_ k_)) ∧ Aside0 (Below w0.heap.size w0 w'))
 case atStart => exact ⟨(l0), (a1), (0), e2_, e2_, H', ⟨Nat.le_refl _⟩, ⟨rr HO0⟩, ⟨by repeat (first | (with_reducible first | exact HK.out | apply Kept.alloc | apply Kept.drewN | apply Kept.drew) | exact HK.out)⟩, ⟨bb HB⟩⟩
 case round =>
  clear H'
  (try clear c2)
  (try clear p2)
  obtain ⟨x0_1, x1_1, x5_1, rfl, rfl, HA, HK1, HO_0, HK, HB⟩ := hrel
  cases gk with
  | zero => exact absurd HA.out (by simp [laws_markIntS.l0])
  | succ k1 =>
   have H := HA.out
   clear HA
   simp only [laws_markIntS.l0] at H
   by_cases c3 : x5_1 < (x0_1.length : Int)
   ·rw [if_pos c3] at H
    have c3b0 : decide (x5_1 < (x0_1.length : Int)) = true := decide_eq_true c3
    clear c3
    by_cases c4 : 0 ≤ x5_1
    ·rw [if_pos c4] at H
     have c4b0 : decide (0 ≤ x5_1) = true := decide_eq_true c4
     clear c4
     obtain ⟨y446, hy446⟩ : ∃ y_ : List Int, y_ = (x0_1.set (x5_1 : Int).toNat x1_1) := ⟨_, rfl⟩
     replace H : (laws_markIntS.l0 k1 y446 (wrap64 (x1_1 + 1)) (wrap64 (x5_1 + 1))) = some (r1, r2) := by first | (rw [hy446]; with_reducible exact H) | (have H2_ := (Option.bind_some _ _).symm.trans H; rw [hy446]; with_reducible exact H2_) | (have H2_ := (Option.bind_some _ _).symm.trans H; with_reducible exact H2_) | with_reducible exact H | (rw [hy446]; exact H) | exact H
     have Ny446 := dk hy446
     clear hy446
     have H' := dk H
     clear H
     obtain ⟨Ao6, co6, eo6⟩ := Kd.R_slice HO_0.out
     subst eo6
     have p5 : 0 ≤ (x5_1 : Int) := oa
     have q5 : (x5_1 : Int) < ((x0_1.length : Int) : Int) := oa
     obtain ⟨go5, co5, eo5, gb5, gl5, cl5, HG5⟩ := Kd.R_form HO_0.out (by omega)
     (first | cases eo5 | (injection eo5 with ea_ en_ ec_; (first | subst ea_ | (injection ea_ with ea_; subst ea_)); subst ec_; clear en_))
     have GB5 := dk gb5
     have GG5 := dk HG5
     clear gb5 gl5 HG5
     have HMgo5 := dk (show (P0_ go5 ∨ w.heap.size ≤ go5) from (HO_0.out.1 _ rfl))
     obtain ⟨hx5_0, hf5_0⟩ := Kd.R_celln 0 HO_0.out (x5_1 : Int) p5 q5
     replace p5 := eq_true p5
     replace q5 := eq_true q5
     have HP7 := Kd.R_putg HO_0.out (x5_1 : Int) x1_1
     go_wp2_with (first | ((with_reducible refine gate_store (t := 3) (p := 15) rfl ?_); refine store_event (t := 3) (p := 15) (v := ?vo_w8) (w1 := (wr.setCell ⟨go5, (x5_1 : Int).toNat, none⟩ (.int .i64 x1_1))) ?hg ?ho ?hn ?hr ?_; (case ho => rfl); (case hg => rfl); (case hn => rfl); (case hr => first | (go_simp; done) | (go_simp; rfl)); intro w8 hw; have hg : wr.grownBy w8 (some go5) := (by rw [hw]; exact HP7.2); have hp_ : Kd.R (Kd.int .i64) 3 w8 w0.heap.size (fun k_ => (P0_ k_ ∨ w.heap.size ≤ k_)) (.slice (some ⟨go5, 0, none⟩) x0_1.length co6) y446 := (by rw [hw, Ny446.out]; exact HP7.1); clear HP7; replace HB := dk (by rw [hw]; exact below_set (HB.out) GB5.out : Below w0.heap.size w0 w8); replace HK := dk (Kept.of_grown (S := (fun k_ => P0_ k_)) hg (by repeat (first | (with_reducible first | exact HK.out | apply Kept.alloc | apply Kept.drewN | apply Kept.drew) | exact HK.out)) (fun k_ e_ => (HO_0.out.1 k_ e_))); replace HO_0 := dk (hp_); clear hg hw hp_))
     go_roundg k1
     case measure => have := HK1.out; omega
     case rel => exact ⟨(y446), (wrap64 (x1_1 + 1)), (wrap64 (x5_1 + 1)), e2_, e2_, H', ⟨by have := HK1.out; omega⟩, ⟨rr HO_0⟩, ⟨by repeat (first | (with_reducible first | exact HK.out | apply Kept.alloc | apply Kept.drewN | apply Kept.drew) | exact HK.out)⟩, ⟨bb HB⟩⟩
    ·rw [if_neg c4] at H
     exact absurd H (by simp)
   ·rw [if_neg c3] at H
    have c3b0 : decide (x5_1 < (x0_1.length : Int)) = false := decide_eq_false c3
    clear c3
    simp only [Option.some.injEq, Prod.mk.injEq] at H
    obtain ⟨rfl, rfl⟩ := H
    obtain ⟨Ao9, co9, eo9⟩ := Kd.R_slice HO_0.out
    subst eo9
    go_wp2
    go_ret
    exact ⟨ee, rr HO_0, bb HB, by repeat (first | (with_reducible first | exact HK.out | apply Kept.alloc | apply Kept.drewN | apply Kept.drew) | exact HK.out)⟩
def laws_markText.l0 : Nat → Int → ByteArray → Option (ByteArray)
 | 0, _, _ => none
 | k + 1, x0, x3 => if x0 > 0 then ((some (([(wrap64 (48 + (Int.tmod x0 10))) % 256] : List Int) : List Int)).bind fun y447 => (if (strOfNums y447).size + x3.size ≤ 9223372036854775807 then (laws_markText.l0 k (wrap64 (Int.tdiv x0 10)) ((strOfNums y447) ++ x3)) else (none))) else (if 1 + x3.size ≤ 9223372036854775807 then (some ((⟨#[109]⟩ : ByteArray) ++ x3)) else (none))
def laws_markText.f (k : Nat) (a0 : Int) : Option (ByteArray) := if a0 ≤ 0 then (some (⟨#[109, 48]⟩ : ByteArray)) else (laws_markText.l0 k a0 (⟨#[]⟩ : ByteArray))
theorem laws_markText.calls (k : Nat) (a0 : Int) (r : ByteArray) (w : World) (h : laws_markText.f k a0 = some r) :
  Calls Try.prog 130 #[.int .i64 a0] w fun e w' => e = .returned (.string r) ∧ Below w.heap.size w w' := by
 have HB := dk (Below.refl w.heap.size w)
 have H : (if a0 ≤ 0 then (some (⟨#[109, 48]⟩ : ByteArray)) else (laws_markText.l0 k a0 (⟨#[]⟩ : ByteArray))) = some r := h
 clear h
 by_cases c2 : a0 ≤ 0
 ·rw [if_pos c2] at H
  have c2b0 : decide (a0 ≤ 0) = true := decide_eq_true c2
  clear c2
  obtain rfl := Option.some.inj H
  go_enter Try.func130, Try.ntmps130
  go_wp2
  go_ret
  exact ⟨ee, bb HB⟩
 ·rw [if_neg c2] at H
  have c2b0 : decide (a0 ≤ 0) = false := decide_eq_false c2
  clear c2
  have H' := dk H
  clear H
  go_enter Try.func130, Try.ntmps130
  go_wp2
  go_loopg [0, 3] k (fun kq v0 v3 w' => ∃ (x0_1 : Int) (x3_1 : ByteArray), v0 = .int .i64 x0_1 ∧ v3 = .string x3_1 ∧ Aside0 (laws_markText.l0 kq x0_1 x3_1 = some r) ∧ Aside0 (kq ≤ k) ∧ Aside0 (Below w.heap.size w w'))
  case atStart => exact ⟨(a0), ((⟨#[]⟩ : ByteArray)), e2_, e2_, H', ⟨Nat.le_refl _⟩, ⟨bb HB⟩⟩
  case round =>
   clear H'
   (try clear c1)
   (try clear c2)
   (try clear c2b0)
   (try clear p2)
   obtain ⟨x0_1, x3_1, rfl, rfl, HA, HK1, HB⟩ := hrel
   cases gk with
   | zero => exact absurd HA.out (by simp [laws_markText.l0])
   | succ k1 =>
    have H := HA.out
    clear HA
    simp only [laws_markText.l0] at H
    by_cases c3 : x0_1 > 0
    ·rw [if_pos c3] at H
     have c3b0 : decide (0 < x0_1) = true := decide_eq_true c3
     clear c3
     obtain ⟨y447, hy447⟩ : ∃ y_ : List Int, y_ = (([(wrap64 (48 + (Int.tmod x0_1 10))) % 256] : List Int)) := ⟨_, rfl⟩
     replace H : (if (strOfNums y447).size + x3_1.size ≤ 9223372036854775807 then (laws_markText.l0 k1 (wrap64 (Int.tdiv x0_1 10)) ((strOfNums y447) ++ x3_1)) else (none)) = some r := by first | (rw [hy447]; with_reducible exact H) | (have H2_ := (Option.bind_some _ _).symm.trans H; rw [hy447]; with_reducible exact H2_) | (have H2_ := (Option.bind_some _ _).symm.trans H; with_reducible exact H2_) | with_reducible exact H | (rw [hy447]; exact H) | exact H
     have Ny447 := dk hy447
     clear hy447
     by_cases c4 : (strOfNums y447).size + x3_1.size ≤ 9223372036854775807
     ·rw [if_pos c4] at H
      have c4b0 := eq_true c4
      have c4b1 : decide ((strOfNums y447).size + x3_1.size ≤ 9223372036854775807) = true := decide_eq_true c4
      try have c4b2 : (9223372036854775807 < (strOfNums y447).size + x3_1.size) = False := eq_false (Nat.not_lt.2 c4)
      have H' := dk H
      clear H
      go_wp2_with (first | ((with_reducible refine gate_dst (N := 12) rfl ?_); refine Kd.R_lit (Kd.int .u8) _ 5 ?hg (N := 12) ?hd (xs := ([(wrap64 (48 + (Int.tmod x0_1 10))) % 256] : List Int)) (inner := [.int .u8 ((wrap64 (48 + (Int.tmod x0_1 10))) % 256)]) (ok := fun _ => True) (okp := fun _ => True) ?hr ?hp (fun _ hk => hk) trivial (Below.refl _ _) (Nat.le_refl _) (by simp) ?_; (case hd => rfl); (case hg => rfl); (case hr => first | (go_simp; done) | (go_simp; rfl)); (case hp => exact (Reps.one (show Kd.M (Kd.int .u8) _ _ _ ((wrap64 (48 + (Int.tmod x0_1 10))) % 256) [.int .u8 ((wrap64 (48 + (Int.tmod x0_1 10))) % 256)] from rfl) (Reps.none _ _))); intro v448 w5 ho6 hb hg_ hnew_; clear hg_ hnew_; (first | rw [← Ny447.out] at ho6 | (simp only [Int.reduceToNat] at ho6; rw [← Ny447.out] at ho6)); have HO449 := kl ho6 HB; replace HB := hs_ HB hb; clear hb ho6; have hcv7 := own_string (P := Try.prog) Try.underlying177 Try.underlying5 Try.underlying9 (Kd.own_of_R HO449.out)))
      go_roundg k1
      case measure => have := HK1.out; omega
      case rel => exact ⟨(wrap64 (Int.tdiv x0_1 10)), ((strOfNums y447) ++ x3_1), e2_, e2_, H', ⟨by have := HK1.out; omega⟩, ⟨bb HB⟩⟩
     ·rw [if_neg c4] at H
      exact absurd H (by simp)
    ·rw [if_neg c3] at H
     have c3b0 : decide (0 < x0_1) = false := decide_eq_false c3
     clear c3
     by_cases c8 : 1 + x3_1.size ≤ 9223372036854775807
     ·rw [if_pos c8] at H
      have c8b0 := eq_true c8
      have c8b1 : decide (1 + x3_1.size ≤ 9223372036854775807) = true := decide_eq_true c8
      try have c8b2 : (9223372036854775807 < 1 + x3_1.size) = False := eq_false (Nat.not_lt.2 c8)
      obtain rfl := Option.some.inj H
      go_wp2
      go_ret
      exact ⟨ee, bb HB⟩
     ·rw [if_neg c8] at H
      exact absurd H (by simp)
def laws_markTeamS.l0 : Nat → List (S139) → Int → Int → Option (Int × (List (S139)))
 | 0, _, _, _ => none
 | k + 1, x0, x1, x5 => if x5 < (x0.length : Int) then ((laws_markText.f k x1).bind fun t450 => (if 0 ≤ x5 then ((some (x0.set (x5 : Int).toNat (⟨t450, (rd_T139 x0 x5).f1, (rd_T139 x0 x5).f2⟩ : S139) : List (S139))).bind fun y451 => ((some (y451.set (x5 : Int).toNat (⟨(rd_T139 y451 x5).f0, wrap64 (x1 + 1), (rd_T139 y451 x5).f2⟩ : S139) : List (S139))).bind fun y452 => (laws_markTeamS.l0 k (y452.set (x5 : Int).toNat (⟨(rd_T139 y452 x5).f0, (rd_T139 y452 x5).f1, wrap64 ((wrap64 (x1 + 1)) + 1)⟩ : S139)) (wrap64 ((wrap64 ((wrap64 (x1 + 1)) + 1)) + 1)) (wrap64 (x5 + 1))))) else (none))) else (some (x1, x0))
def laws_markTeamS.f (k : Nat) (l0 : List (S139)) (a1 : Int) : Option (Int × (List (S139))) := laws_markTeamS.l0 k l0 a1 0
theorem laws_markTeamS.calls (k : Nat) (P0_ : Nat → Prop) (u9000_ : Value) (l0 : List (S139)) (a1 : Int) (r1 : Int) (r2 : List (S139)) (w0 w : World) (hB : Below w0.heap.size w0 w) (ho0 : Kd.R k139 139 w w0.heap.size P0_ u9000_ l0) (h : laws_markTeamS.f k l0 a1 = some (r1, r2)) :
  Calls Try.prog 68 #[u9000_, .int .i64 a1] w fun e w' => e = .returned (.int .i64 r1) ∧ Kd.R k139 139 w' w0.heap.size (fun k_ => (P0_ k_ ∨ w.heap.size ≤ k_)) u9000_ r2 ∧ Below w0.heap.size w0 w' ∧ Kept w w' (fun k_ => P0_ k_) := by
 have HO0 := dk (show Kd.R k139 139 w w0.heap.size (fun k_ => (P0_ k_ ∨ w.heap.size ≤ k_)) u9000_ l0 from Kd.R_mono ho0 (fun k_ hk => (.inl hk)))
 have HK := dk (Kept.refl w (fun k_ => P0_ k_))
 have HW0 := dk hB.size
 have HB := dk hB
 clear hB
 have H : (laws_markTeamS.l0 k l0 a1 0) = some (r1, r2) := h
 clear h
 have H' := dk H
 clear H
 go_enter Try.func68, Try.ntmps68
 go_wp2
 go_loopg [1, 5] k (fun kq v1 v5 w' => ∃ (x0_1 : List (S139)) (x1_1 : Int) (x5_1 : Int), v1 = .int .i64 x1_1 ∧ v5 = .int .i64 x5_1 ∧ Aside0 (laws_markTeamS.l0 kq x0_1 x1_1 x5_1 = some (r1, r2)) ∧ Aside0 (kq ≤ k) ∧ Aside0 (Kd.R k139 139 w' w0.heap.size (fun k_ => (P0_ k_ ∨ w.heap.size ≤ k_)) u9000_ x0_1) ∧ Aside0 (Kept w w' (fun k_ => P0_ k_)) ∧ Aside0 (Below w0.heap.size w0 w'))
 case atStart => exact ⟨(l0), (a1), (0), e2_, e2_, H', ⟨Nat.le_refl _⟩, ⟨rr HO0⟩, ⟨by repeat (first | (with_reducible first | exact HK.out | apply Kept.alloc | apply Kept.drewN | apply Kept.drew) | exact HK.out)⟩, ⟨bb HB⟩⟩
 case round =>
  clear H'
  (try clear p2)
  obtain ⟨x0_1, x1_1, x5_1, rfl, rfl, HA, HK1, HO_0, HK, HB⟩ := hrel
  cases gk with
  | zero => exact absurd HA.out (by simp [laws_markTeamS.l0])
  | succ k1 =>
   have H := HA.out
   clear HA
   simp only [laws_markTeamS.l0] at H
   by_cases c3 : x5_1 < (x0_1.length : Int)
   ·rw [if_pos c3] at H
    have c3b0 : decide (x5_1 < (x0_1.length : Int)) = true := decide_eq_true c3
    clear c3
    replace H := Option.bind_eq_some_iff.mp H
    obtain ⟨t450, A40, H⟩ := H
    replace H : (if 0 ≤ x5_1 then ((some (x0_1.set (x5_1 : Int).toNat (⟨t450, (rd_T139 x0_1 x5_1).f1, (rd_T139 x0_1 x5_1).f2⟩ : S139) : List (S139))).bind fun y451 => ((some (y451.set (x5_1 : Int).toNat (⟨(rd_T139 y451 x5_1).f0, wrap64 (x1_1 + 1), (rd_T139 y451 x5_1).f2⟩ : S139) : List (S139))).bind fun y452 => (laws_markTeamS.l0 k1 (y452.set (x5_1 : Int).toNat (⟨(rd_T139 y452 x5_1).f0, (rd_T139 y452 x5_1).f1, wrap64 ((wrap64 (x1_1 + 1)) + 1)⟩ : S139)) (wrap64 ((wrap64 ((wrap64 (x1_1 + 1)) + 1)) + 1)) (wrap64 (x5_1 + 1))))) else (none)) = some (r1, r2) := H
    have A4 := dk A40
    clear A40
    by_cases c5 : 0 ≤ x5_1
    ·rw [if_pos c5] at H
     have c5b0 : decide (0 ≤ x5_1) = true := decide_eq_true c5
     clear c5
     obtain ⟨y451, hy451⟩ : ∃ y_ : List (S139), y_ = (x0_1.set (x5_1 : Int).toNat (⟨t450, (rd_T139 x0_1 x5_1).f1, (rd_T139 x0_1 x5_1).f2⟩ : S139)) := ⟨_, rfl⟩
     replace H : ((some (y451.set (x5_1 : Int).toNat (⟨(rd_T139 y451 x5_1).f0, wrap64 (x1_1 + 1), (rd_T139 y451 x5_1).f2⟩ : S139) : List (S139))).bind fun y452 => (laws_markTeamS.l0 k1 (y452.set (x5_1 : Int).toNat (⟨(rd_T139 y452 x5_1).f0, (rd_T139 y452 x5_1).f1, wrap64 ((wrap64 (x1_1 + 1)) + 1)⟩ : S139)) (wrap64 ((wrap64 ((wrap64 (x1_1 + 1)) + 1)) + 1)) (wrap64 (x5_1 + 1)))) = some (r1, r2) := by first | (rw [hy451]; with_reducible exact H) | (have H2_ := (Option.bind_some _ _).symm.trans H; rw [hy451]; with_reducible exact H2_) | (have H2_ := (Option.bind_some _ _).symm.trans H; with_reducible exact H2_) | with_reducible exact H | (rw [hy451]; exact H) | exact H
     have Ny451 := dk hy451
     clear hy451
     obtain ⟨y452, hy452⟩ : ∃ y_ : List (S139), y_ = (y451.set (x5_1 : Int).toNat (⟨(rd_T139 y451 x5_1).f0, wrap64 (x1_1 + 1), (rd_T139 y451 x5_1).f2⟩ : S139)) := ⟨_, rfl⟩
     replace H : (laws_markTeamS.l0 k1 (y452.set (x5_1 : Int).toNat (⟨(rd_T139 y452 x5_1).f0, (rd_T139 y452 x5_1).f1, wrap64 ((wrap64 (x1_1 + 1)) + 1)⟩ : S139)) (wrap64 ((wrap64 ((wrap64 (x1_1 + 1)) + 1)) + 1)) (wrap64 (x5_1 + 1))) = some (r1, r2) := by first | (rw [hy452]; with_reducible exact H) | (have H2_ := (Option.bind_some _ _).symm.trans H; rw [hy452]; with_reducible exact H2_) | (have H2_ := (Option.bind_some _ _).symm.trans H; with_reducible exact H2_) | with_reducible exact H | (rw [hy452]; exact H) | exact H
     have Ny452 := dk hy452
     clear hy452
     obtain ⟨y453, hy453⟩ : ∃ y_ : List (S139), y_ = (y452.set (x5_1 : Int).toNat (⟨(rd_T139 y452 x5_1).f0, (rd_T139 y452 x5_1).f1, wrap64 ((wrap64 (x1_1 + 1)) + 1)⟩ : S139)) := ⟨_, rfl⟩
     replace H : (laws_markTeamS.l0 k1 y453 (wrap64 ((wrap64 ((wrap64 (x1_1 + 1)) + 1)) + 1)) (wrap64 (x5_1 + 1))) = some (r1, r2) := by first | (rw [hy453]; with_reducible exact H) | (have H2_ := (Option.bind_some _ _).symm.trans H; rw [hy453]; with_reducible exact H2_) | (have H2_ := (Option.bind_some _ _).symm.trans H; with_reducible exact H2_) | with_reducible exact H | (rw [hy453]; exact H) | exact H
     have Ny453 := dk hy453
     clear hy453
     have H' := dk H
     clear H
     obtain ⟨Ao9, co9, eo9⟩ := Kd.R_slice HO_0.out
     subst eo9
     go_wp2_with (first | ((with_reducible refine gate_callee (f := 130) rfl ?_); refine gl (some 15) Try.func130 #[.int .i64 x1_1] ?_; (with_reducible refine (laws_markText.calls k1 x1_1 t450 _ A4.out).mono ?_); rintro e w10 ⟨rfl, hb⟩; refine ⟨_, rfl, ?_⟩; replace HO_0 := kr HO_0 hb; replace HK := dk (Kept.below (S := (fun k_ => P0_ k_)) (by repeat (first | (with_reducible first | exact HK.out | apply Kept.alloc | apply Kept.drewN | apply Kept.drew) | exact HK.out)) hb); replace HB := hs_ HB hb; (try clear hb hb2 hk hi); have p6 : 0 ≤ (x5_1 : Int) := oa; have q6 : (x5_1 : Int) < ((x0_1.length : Int) : Int) := oa; obtain ⟨go6, co6, eo6, gb6, gl6, cl6, HG6⟩ := Kd.R_form HO_0.out (by omega); (first | cases eo6 | (injection eo6 with ea_ en_ ec_; (first | subst ea_ | (injection ea_ with ea_; subst ea_)); subst ec_; clear en_)); have GB6 := dk gb6; have GG6 := dk HG6; clear gb6 gl6 HG6; have HMgo6 := dk (show (P0_ go6 ∨ w.heap.size ≤ go6) from (HO_0.out.1 _ rfl)); obtain ⟨ce6, hcl6, hM6, hcc6, hfr6⟩ := Kd.R_elem HO_0.out z139 (x5_1 : Int) p6 q6; obtain rfl := k139_openM hM6; have hx6_0 : w10.cell? ⟨go6, (x5_1 : Int).toNat * 3, none⟩ = some (.string ((rd_T139 x0_1 x5_1).f0)) := hcc6 0 _ rfl; have hx6_1 : w10.cell? ⟨go6, (x5_1 : Int).toNat * 3 + 1, none⟩ = some (.int .i64 ((rd_T139 x0_1 x5_1).f1)) := hcc6 1 _ rfl; have hx6_2 : w10.cell? ⟨go6, (x5_1 : Int).toNat * 3 + 2, none⟩ = some (.int .i64 ((rd_T139 x0_1 x5_1).f2)) := hcc6 2 _ rfl; have hf6_0 : w10.frozen? ⟨go6, (x5_1 : Int).toNat * 3, none⟩ = false := hfr6 0; have hf6_1 : w10.frozen? ⟨go6, (x5_1 : Int).toNat * 3 + 1, none⟩ = false := hfr6 1; have hf6_2 : w10.frozen? ⟨go6, (x5_1 : Int).toNat * 3 + 2, none⟩ = false := hfr6 2; clear hcl6 hcc6 hfr6; (try clear hM6); replace p6 := eq_true p6; replace q6 := eq_true q6; have HX11 := dk (show Kd.R k139 139 w10 w0.heap.size (fun k_ => (P0_ k_ ∨ w.heap.size ≤ k_)) (.slice (some ⟨go6, 0, none⟩) x0_1.length co9) x0_1 from (rr HO_0)); obtain ⟨ce11, hcl11, hM11, hcc11, hfr11⟩ := Kd.R_elem HX11.out z139 (x5_1 : Int) (oa) (by have h_ : (x5_1 : Int) < ((x0_1.length : Int) : Int) := oa; first | exact h_ | (have e_ := (Kd.R_reads' HO_0.out).1; omega) | simpa using h_); obtain rfl := k139_openM hM11; have HP11 := Kd.R_seg HX11.out (x5_1 : Int) (oa) (by have h_ : (x5_1 : Int) < ((x0_1.length : Int) : Int) := oa; first | exact h_ | (have e_ := (Kd.R_reads' HO_0.out).1; omega) | simpa using h_) (seg := [.string t450]) (j := 0) hcl11 hcc11 (show 1 ≤ 3 from by decide) (x' := (⟨t450, (rd_T139 x0_1 x5_1).f1, (rd_T139 x0_1 x5_1).f2⟩ : S139)) (k139_mkM _ _ _ (⟨t450, (rd_T139 x0_1 x5_1).f1, (rd_T139 x0_1 x5_1).f2⟩ : S139) ) (fun _ hk => hk); have hx11_0 := hcc11 0 _ rfl; (try simp only [show (k139).sz = 3 from rfl, Nat.mul_one, Nat.add_zero] at hx11_0); have hf11_0 := hfr11 0; (try simp only [show (k139).sz = 3 from rfl, Nat.mul_one, Nat.add_zero] at hf11_0); clear hcl11 hcc11 hfr11; (try clear hM11)) | ((with_reducible refine gate_store (t := 9) (p := 17) rfl ?_); refine store_event (t := 9) (p := 17) (v := ?vo_w12) (w1 := (w10.setCell ⟨go6, (x5_1 : Int).toNat * 3, none⟩ (.string t450))) ?hg ?ho ?hn ?hr ?_; (case ho => rfl); (case hg => rfl); (case hn => rfl); (case hr => first | (go_simp; done) | (go_simp; rfl)); intro w12 hw; have hg : w10.grownBy w12 (some go6) := (by rw [hw]; exact HP11.2); have hp_ : Kd.R k139 139 w12 w0.heap.size (fun k_ => (P0_ k_ ∨ w.heap.size ≤ k_)) (.slice (some ⟨go6, 0, none⟩) x0_1.length co9) y451 := (by rw [hw, Ny451.out]; exact HP11.1); clear HP11; replace HB := dk (by rw [hw]; exact below_set (HB.out) GB6.out : Below w0.heap.size w0 w12); replace HK := dk (Kept.of_grown (S := (fun k_ => P0_ k_)) hg (by repeat (first | (with_reducible first | exact HK.out | apply Kept.alloc | apply Kept.drewN | apply Kept.drew) | exact HK.out)) (fun k_ e_ => (HO_0.out.1 k_ e_))); replace HO_0 := dk (hp_); clear hg hw hp_; have p7 : 0 ≤ (x5_1 : Int) := oa; have q7 : (x5_1 : Int) < ((x0_1.length : Int) : Int) := oa; obtain ⟨ce7, hcl7, hM7, hcc7, hfr7⟩ := Kd.R_elem HO_0.out z139 (x5_1 : Int) p7 q7; obtain rfl := k139_openM hM7; have hx7_0 : w12.cell? ⟨go6, (x5_1 : Int).toNat * 3, none⟩ = some (.string ((rd_T139 y451 x5_1).f0)) := hcc7 0 _ rfl; have hx7_1 : w12.cell? ⟨go6, (x5_1 : Int).toNat * 3 + 1, none⟩ = some (.int .i64 ((rd_T139 y451 x5_1).f1)) := hcc7 1 _ rfl; have hx7_2 : w12.cell? ⟨go6, (x5_1 : Int).toNat * 3 + 2, none⟩ = some (.int .i64 ((rd_T139 y451 x5_1).f2)) := hcc7 2 _ rfl; have hf7_0 : w12.frozen? ⟨go6, (x5_1 : Int).toNat * 3, none⟩ = false := hfr7 0; have hf7_1 : w12.frozen? ⟨go6, (x5_1 : Int).toNat * 3 + 1, none⟩ = false := hfr7 1; have hf7_2 : w12.frozen? ⟨go6, (x5_1 : Int).toNat * 3 + 2, none⟩ = false := hfr7 2; clear hcl7 hcc7 hfr7; (try clear hM7); replace p7 := eq_true p7; replace q7 := eq_true q7; have HX13 := dk (show Kd.R k139 139 w12 w0.heap.size (fun k_ => (P0_ k_ ∨ w.heap.size ≤ k_)) (.slice (some ⟨go6, 0, none⟩) x0_1.length co9) y451 from (rr HO_0)); obtain ⟨ce13, hcl13, hM13, hcc13, hfr13⟩ := Kd.R_elem HX13.out z139 (x5_1 : Int) (oa) (by have h_ : (x5_1 : Int) < ((x0_1.length : Int) : Int) := oa; first | exact h_ | (have e_ := (Kd.R_reads' HO_0.out).1; omega) | simpa using h_); obtain rfl := k139_openM hM13; have HP13 := Kd.R_seg HX13.out (x5_1 : Int) (oa) (by have h_ : (x5_1 : Int) < ((x0_1.length : Int) : Int) := oa; first | exact h_ | (have e_ := (Kd.R_reads' HO_0.out).1; omega) | simpa using h_) (seg := [.int .i64 (wrap64 (x1_1 + 1))]) (j := 1) hcl13 hcc13 (show 2 ≤ 3 from by decide) (x' := (⟨(rd_T139 y451 x5_1).f0, wrap64 (x1_1 + 1), (rd_T139 y451 x5_1).f2⟩ : S139)) (k139_mkM _ _ _ (⟨(rd_T139 y451 x5_1).f0, wrap64 (x1_1 + 1), (rd_T139 y451 x5_1).f2⟩ : S139) ) (fun _ hk => hk); have hx13_1 := hcc13 1 _ rfl; (try simp only [show (k139).sz = 3 from rfl, Nat.mul_one, Nat.add_zero] at hx13_1); have hf13_1 := hfr13 1; (try simp only [show (k139).sz = 3 from rfl, Nat.mul_one, Nat.add_zero] at hf13_1); clear hcl13 hcc13 hfr13; (try clear hM13)) | ((with_reducible refine gate_store (t := 3) (p := 24) rfl ?_); refine store_event (t := 3) (p := 24) (v := ?vo_w14) (w1 := (w12.setCell ⟨go6, (x5_1 : Int).toNat * 3 + 1, none⟩ (.int .i64 (wrap64 (x1_1 + 1))))) ?hg ?ho ?hn ?hr ?_; (case ho => rfl); (case hg => rfl); (case hn => rfl); (case hr => first | (go_simp; done) | (go_simp; rfl)); intro w14 hw; have hg : w12.grownBy w14 (some go6) := (by rw [hw]; exact HP13.2); have hp_ : Kd.R k139 139 w14 w0.heap.size (fun k_ => (P0_ k_ ∨ w.heap.size ≤ k_)) (.slice (some ⟨go6, 0, none⟩) x0_1.length co9) y452 := (by rw [hw, Ny452.out]; exact HP13.1); clear HP13; replace HB := dk (by rw [hw]; exact below_set (HB.out) GB6.out : Below w0.heap.size w0 w14); replace HK := dk (Kept.of_grown (S := (fun k_ => P0_ k_)) hg (by repeat (first | (with_reducible first | exact HK.out | apply Kept.alloc | apply Kept.drewN | apply Kept.drew) | exact HK.out)) (fun k_ e_ => (HO_0.out.1 k_ e_))); replace HO_0 := dk (hp_); clear hg hw hp_; have p8 : 0 ≤ (x5_1 : Int) := oa; have q8 : (x5_1 : Int) < ((x0_1.length : Int) : Int) := oa; obtain ⟨ce8, hcl8, hM8, hcc8, hfr8⟩ := Kd.R_elem HO_0.out z139 (x5_1 : Int) p8 q8; obtain rfl := k139_openM hM8; have hx8_0 : w14.cell? ⟨go6, (x5_1 : Int).toNat * 3, none⟩ = some (.string ((rd_T139 y452 x5_1).f0)) := hcc8 0 _ rfl; have hx8_1 : w14.cell? ⟨go6, (x5_1 : Int).toNat * 3 + 1, none⟩ = some (.int .i64 ((rd_T139 y452 x5_1).f1)) := hcc8 1 _ rfl; have hx8_2 : w14.cell? ⟨go6, (x5_1 : Int).toNat * 3 + 2, none⟩ = some (.int .i64 ((rd_T139 y452 x5_1).f2)) := hcc8 2 _ rfl; have hf8_0 : w14.frozen? ⟨go6, (x5_1 : Int).toNat * 3, none⟩ = false := hfr8 0; have hf8_1 : w14.frozen? ⟨go6, (x5_1 : Int).toNat * 3 + 1, none⟩ = false := hfr8 1; have hf8_2 : w14.frozen? ⟨go6, (x5_1 : Int).toNat * 3 + 2, none⟩ = false := hfr8 2; clear hcl8 hcc8 hfr8; (try clear hM8); replace p8 := eq_true p8; replace q8 := eq_true q8; have HX15 := dk (show Kd.R k139 139 w14 w0.heap.size (fun k_ => (P0_ k_ ∨ w.heap.size ≤ k_)) (.slice (some ⟨go6, 0, none⟩) x0_1.length co9) y452 from (rr HO_0)); obtain ⟨ce15, hcl15, hM15, hcc15, hfr15⟩ := Kd.R_elem HX15.out z139 (x5_1 : Int) (oa) (by have h_ : (x5_1 : Int) < ((x0_1.length : Int) : Int) := oa; first | exact h_ | (have e_ := (Kd.R_reads' HO_0.out).1; omega) | simpa using h_); obtain rfl := k139_openM hM15; have HP15 := Kd.R_seg HX15.out (x5_1 : Int) (oa) (by have h_ : (x5_1 : Int) < ((x0_1.length : Int) : Int) := oa; first | exact h_ | (have e_ := (Kd.R_reads' HO_0.out).1; omega) | simpa using h_) (seg := [.int .i64 (wrap64 ((wrap64 (x1_1 + 1)) + 1))]) (j := 2) hcl15 hcc15 (show 3 ≤ 3 from by decide) (x' := (⟨(rd_T139 y452 x5_1).f0, (rd_T139 y452 x5_1).f1, wrap64 ((wrap64 (x1_1 + 1)) + 1)⟩ : S139)) (k139_mkM _ _ _ (⟨(rd_T139 y452 x5_1).f0, (rd_T139 y452 x5_1).f1, wrap64 ((wrap64 (x1_1 + 1)) + 1)⟩ : S139) ) (fun _ hk => hk); have hx15_2 := hcc15 2 _ rfl; (try simp only [show (k139).sz = 3 from rfl, Nat.mul_one, Nat.add_zero] at hx15_2); have hf15_2 := hfr15 2; (try simp only [show (k139).sz = 3 from rfl, Nat.mul_one, Nat.add_zero] at hf15_2); clear hcl15 hcc15 hfr15; (try clear hM15)) | ((with_reducible refine gate_store (t := 3) (p := 31) rfl ?_); refine store_event (t := 3) (p := 31) (v := ?vo_w16) (w1 := (w14.setCell ⟨go6, (x5_1 : Int).toNat * 3 + 2, none⟩ (.int .i64 (wrap64 ((wrap64 (x1_1 + 1)) + 1))))) ?hg ?ho ?hn ?hr ?_; (case ho => rfl); (case hg => rfl); (case hn => rfl); (case hr => first | (go_simp; done) | (go_simp; rfl)); intro w16 hw; have hg : w14.grownBy w16 (some go6) := (by rw [hw]; exact HP15.2); have hp_ : Kd.R k139 139 w16 w0.heap.size (fun k_ => (P0_ k_ ∨ w.heap.size ≤ k_)) (.slice (some ⟨go6, 0, none⟩) x0_1.length co9) y453 := (by rw [hw, Ny453.out]; exact HP15.1); clear HP15; replace HB := dk (by rw [hw]; exact below_set (HB.out) GB6.out : Below w0.heap.size w0 w16); replace HK := dk (Kept.of_grown (S := (fun k_ => P0_ k_)) hg (by repeat (first | (with_reducible first | exact HK.out | apply Kept.alloc | apply Kept.drewN | apply Kept.drew) | exact HK.out)) (fun k_ e_ => (HO_0.out.1 k_ e_))); replace HO_0 := dk (hp_); clear hg hw hp_))
     go_roundg k1
     case measure => have := HK1.out; omega
     case rel => exact ⟨(y453), (wrap64 ((wrap64 ((wrap64 (x1_1 + 1)) + 1)) + 1)), (wrap64 (x5_1 + 1)), e2_, e2_, H', ⟨by have := HK1.out; omega⟩, ⟨rr HO_0⟩, ⟨by repeat (first | (with_reducible first | exact HK.out | apply Kept.alloc | apply Kept.drewN | apply Kept.drew) | exact HK.out)⟩, ⟨bb HB⟩⟩
    ·rw [if_neg c5] at H
     exact absurd H (by simp)
   ·rw [if_neg c3] at H
    have c3b0 : decide (x5_1 < (x0_1.length : Int)) = false := decide_eq_false c3
    clear c3
    simp only [Option.some.injEq, Prod.mk.injEq] at H
    obtain ⟨rfl, rfl⟩ := H
    obtain ⟨Ao17, co17, eo17⟩ := Kd.R_slice HO_0.out
    subst eo17
    go_wp2
    go_ret
    exact ⟨ee, rr HO_0, bb HB, by repeat (first | (with_reducible first | exact HK.out | apply Kept.alloc | apply Kept.drewN | apply Kept.drew) | exact HK.out)⟩
def laws_markRules.f (k : Nat) (a0_0 : Int) (a0_1 : Int) (a0_2 : Int) (l0_3 : List Int) (a0_4 : Bool) (a1 : Int) : Option (Int × List Int) := (laws_markIntS.f k l0_3 a1).bind fun bt455 => (some (bt455.1, bt455.2))
theorem laws_markRules.calls (k : Nat) (a0_0 : Int) (a0_1 : Int) (a0_2 : Int) (P0_3_ : Nat → Prop) (u9000_ : Value) (l0_3 : List Int) (a0_4 : Bool) (a1 : Int) (r1 : Int) (r2 : List Int) (w0 w : World) (hB : Below w0.heap.size w0 w) (ho0_3 : Kd.R (Kd.int .i64) 3 w w0.heap.size P0_3_ u9000_ l0_3) (h : laws_markRules.f k a0_0 a0_1 a0_2 l0_3 a0_4 a1 = some (r1, r2)) :
  Calls Try.prog 69 #[.agg #[.int .i64 a0_0, .int .i64 a0_1, .int .i64 a0_2, u9000_, .bool a0_4], .int .i64 a1] w fun e w' => e = .returned (.int .i64 r1) ∧ Kd.R (Kd.int .i64) 3 w' w0.heap.size (fun k_ => (P0_3_ k_ ∨ w.heap.size ≤ k_)) u9000_ r2 ∧ Below w0.heap.size w0 w' ∧ Kept w w' (fun k_ => P0_3_ k_) := by
 have hu33 := Try.underlying33
 have HO0_3 := dk (show Kd.R (Kd.int .i64) 3 w w0.heap.size (fun k_ => (P0_3_ k_ ∨ w.heap.size ≤ k_)) u9000_ l0_3 from Kd.R_mono ho0_3 (fun k_ hk => (.inl hk)))
 have HK := dk (Kept.refl w (fun k_ => P0_3_ k_))
 have HW0 := dk hB.size
 have HB := dk hB
 clear hB
 have H : ((laws_markIntS.f k l0_3 a1).bind fun bt455 => (some (bt455.1, bt455.2))) = some (r1, r2) := h
 clear h
 replace H := Option.bind_eq_some_iff.mp H
 obtain ⟨⟨t455, t456⟩, A30, H⟩ := H
 replace H : (some (t455, t456)) = some (r1, r2) := H
 have A3 := dk A30
 clear A30
 simp only [Option.some.injEq, Prod.mk.injEq] at H
 obtain ⟨rfl, rfl⟩ := H
 obtain ⟨Ao4, co4, eo4⟩ := Kd.R_slice HO0_3.out
 subst eo4
 go_enter Try.func69, Try.ntmps69
 go_wp2_with (first | ((with_reducible refine gate_dst (N := 2) rfl ?_); refine bx (N := 2) (cs := #[.int .i64 a0_0, .int .i64 a0_1, .int .i64 a0_2, .slice Ao4 l0_3.length co4, .bool a0_4]) (t := 33) ?_; intro gb454 hg w5 hbox hb; replace HO0_3 := kr HO0_3 hb; have BK454 := dk (hbox); have GW454 := dk (by rw [hg]; exact (by first | exact HK.out.1 | exact (show Kept w _ (fun k_ => P0_3_ k_) from by repeat (first | (with_reducible first | exact HK.out | apply Kept.alloc | apply Kept.drewN | apply Kept.drew) | exact HK.out)).1) : w.heap.size ≤ gb454); replace HK := dk (Kept.below (S := (fun k_ => P0_3_ k_)) (by repeat (first | (with_reducible first | exact HK.out | apply Kept.alloc | apply Kept.drewN | apply Kept.drew) | exact HK.out)) hb); have GE454 := gs hg HB; replace HB := hs_ HB hb; clear hb hbox hg; have ⟨z6_0, z6_1, z6_2, z6_3, z6_4, v6_0, v6_1, v6_2, v6_3, v6_4⟩ := rz5 BK454) | ((with_reducible refine gate_callee (f := 29) rfl ?_); refine gl (some 8) Try.func29 #[.slice Ao4 l0_3.length co4, .int .i64 a1] ?_; (with_reducible refine (laws_markIntS.calls k (fun k_ => some k_ = (.slice Ao4 l0_3.length co4 : Value).ownBlock) (.slice Ao4 l0_3.length co4) l0_3 a1 t455 t456 w0 _ ?side1 ?side2 A3.out).mono ?_); (case side1 => exact bb HB); (case side2 => exact Kd.R_tight rfl HO0_3.out); rintro e w7 ⟨rfl, hy0, hb, hkp⟩; refine ⟨_, rfl, ?_⟩; replace BK454 := dk (blk_kept (bk BK454) hkp (fun hs_ => (fun e_ => (Kd.R_ne HO0_3.out BK454.out (by decide)) e_) hs_)); replace HK := dk (Kept.then_ (S := (fun k_ => P0_3_ k_)) (by repeat (first | (with_reducible first | exact HK.out | apply Kept.alloc | apply Kept.drewN | apply Kept.drew | refine Kept.setCell ?_ (.inr GW454.out) _) | exact HK.out)) hkp (fun k_ hs_ => (fun e_ => (HO0_3.out.1 k_ e_.symm)) hs_)); replace HO0_3 := dk (Kd.R_reok rfl hy0 (fun k_ e_ => HO0_3.out.1 k_ e_)); replace HB := dk (hb); (try clear hb hkp hy0)))
 go_ret
 exact ⟨ee, rr HO0_3, bb HB, by repeat (first | (with_reducible first | exact HK.out | apply Kept.alloc | apply Kept.drewN | apply Kept.drew | refine Kept.setCell ?_ (.inr GW454.out) _) | exact HK.out)⟩
def laws_markGameS.l0 : Nat → List (S95) → Int → Int → Option (Int × (List (S95)))
 | 0, _, _, _ => none
 | k + 1, x0, x1, x5 => if x5 < (x0.length : Int) then (if 0 ≤ x5 then ((some (x0.set (x5 : Int).toNat (⟨x1, (rd_T95 x0 x5).f1, (rd_T95 x0 x5).f2, (rd_T95 x0 x5).f3, (rd_T95 x0 x5).f4⟩ : S95) : List (S95))).bind fun y457 => ((some (y457.set (x5 : Int).toNat (⟨(rd_T95 y457 x5).f0, wrap64 (x1 + 1), (rd_T95 y457 x5).f2, (rd_T95 y457 x5).f3, (rd_T95 y457 x5).f4⟩ : S95) : List (S95))).bind fun y458 => ((some (y458.set (x5 : Int).toNat (⟨(rd_T95 y458 x5).f0, (rd_T95 y458 x5).f1, wrap64 ((wrap64 (x1 + 1)) + 1), (rd_T95 y458 x5).f3, (rd_T95 y458 x5).f4⟩ : S95) : List (S95))).bind fun y459 => ((some (y459.set (x5 : Int).toNat (⟨(rd_T95 y459 x5).f0, (rd_T95 y459 x5).f1, (rd_T95 y459 x5).f2, wrap64 ((wrap64 ((wrap64 (x1 + 1)) + 1)) + 1), (rd_T95 y459 x5).f4⟩ : S95) : List (S95))).bind fun y460 => (laws_markGameS.l0 k (y460.set (x5 : Int).toNat (⟨(rd_T95 y460 x5).f0, (rd_T95 y460 x5).f1, (rd_T95 y460 x5).f2, (rd_T95 y460 x5).f3, wrap64 ((wrap64 ((wrap64 ((wrap64 (x1 + 1)) + 1)) + 1)) + 1)⟩ : S95)) (wrap64 ((wrap64 ((wrap64 ((wrap64 ((wrap64 (x1 + 1)) + 1)) + 1)) + 1)) + 1)) (wrap64 (x5 + 1))))))) else (none)) else (some (x1, x0))
def laws_markGameS.f (k : Nat) (l0 : List (S95)) (a1 : Int) : Option (Int × (List (S95))) := laws_markGameS.l0 k l0 a1 0
theorem laws_markGameS.calls (k : Nat) (P0_ : Nat → Prop) (u9000_ : Value) (l0 : List (S95)) (a1 : Int) (r1 : Int) (r2 : List (S95)) (w0 w : World) (hB : Below w0.heap.size w0 w) (ho0 : Kd.R k95 95 w w0.heap.size P0_ u9000_ l0) (h : laws_markGameS.f k l0 a1 = some (r1, r2)) :
  Calls Try.prog 70 #[u9000_, .int .i64 a1] w fun e w' => e = .returned (.int .i64 r1) ∧ Kd.R k95 95 w' w0.heap.size (fun k_ => (P0_ k_ ∨ w.heap.size ≤ k_)) u9000_ r2 ∧ Below w0.heap.size w0 w' ∧ Kept w w' (fun k_ => P0_ k_) := by
 have HO0 := dk (show Kd.R k95 95 w w0.heap.size (fun k_ => (P0_ k_ ∨ w.heap.size ≤ k_)) u9000_ l0 from Kd.R_mono ho0 (fun k_ hk => (.inl hk)))
 have HK := dk (Kept.refl w (fun k_ => P0_ k_))
 have HW0 := dk hB.size
 have HB := dk hB
 clear hB
 have H : (laws_markGameS.l0 k l0 a1 0) = some (r1, r2) := h
 clear h
 have H' := dk H
 clear H
 go_enter Try.func70, Try.ntmps70
 go_wp2
 go_loopg [1, 5] k (fun kq v1 v5 w' => ∃ (x0_1 : List (S95)) (x1_1 : Int) (x5_1 : Int), v1 = .int .i64 x1_1 ∧ v5 = .int .i64 x5_1 ∧ Aside0 (laws_markGameS.l0 kq x0_1 x1_1 x5_1 = some (r1, r2)) ∧ Aside0 (kq ≤ k) ∧ Aside0 (Kd.R k95 95 w' w0.heap.size (fun k_ => (P0_ k_ ∨ w.heap.size ≤ k_)) u9000_ x0_1) ∧ Aside0 (Kept w w' (fun k_ => P0_ k_)) ∧ Aside0 (Below w0.heap.size w0 w'))
 case atStart => exact ⟨(l0), (a1), (0), e2_, e2_, H', ⟨Nat.le_refl _⟩, ⟨rr HO0⟩, ⟨by repeat (first | (with_reducible first | exact HK.out | apply Kept.alloc | apply Kept.drewN | apply Kept.drew) | exact HK.out)⟩, ⟨bb HB⟩⟩
 case round =>
  clear H'
  (try clear p2)
  obtain ⟨x0_1, x1_1, x5_1, rfl, rfl, HA, HK1, HO_0, HK, HB⟩ := hrel
  cases gk with
  | zero => exact absurd HA.out (by simp [laws_markGameS.l0])
  | succ k1 =>
   have H := HA.out
   clear HA
   simp only [laws_markGameS.l0] at H
   by_cases c3 : x5_1 < (x0_1.length : Int)
   ·rw [if_pos c3] at H
    have c3b0 : decide (x5_1 < (x0_1.length : Int)) = true := decide_eq_true c3
    clear c3
    by_cases c4 : 0 ≤ x5_1
    ·rw [if_pos c4] at H
     have c4b0 : decide (0 ≤ x5_1) = true := decide_eq_true c4
     clear c4
     obtain ⟨y457, hy457⟩ : ∃ y_ : List (S95), y_ = (x0_1.set (x5_1 : Int).toNat (⟨x1_1, (rd_T95 x0_1 x5_1).f1, (rd_T95 x0_1 x5_1).f2, (rd_T95 x0_1 x5_1).f3, (rd_T95 x0_1 x5_1).f4⟩ : S95)) := ⟨_, rfl⟩
     replace H : ((some (y457.set (x5_1 : Int).toNat (⟨(rd_T95 y457 x5_1).f0, wrap64 (x1_1 + 1), (rd_T95 y457 x5_1).f2, (rd_T95 y457 x5_1).f3, (rd_T95 y457 x5_1).f4⟩ : S95) : List (S95))).bind fun y458 => ((some (y458.set (x5_1 : Int).toNat (⟨(rd_T95 y458 x5_1).f0, (rd_T95 y458 x5_1).f1, wrap64 ((wrap64 (x1_1 + 1)) + 1), (rd_T95 y458 x5_1).f3, (rd_T95 y458 x5_1).f4⟩ : S95) : List (S95))).bind fun y459 => ((some (y459.set (x5_1 : Int).toNat (⟨(rd_T95 y459 x5_1).f0, (rd_T95 y459 x5_1).f1, (rd_T95 y459 x5_1).f2, wrap64 ((wrap64 ((wrap64 (x1_1 + 1)) + 1)) + 1), (rd_T95 y459 x5_1).f4⟩ : S95) : List (S95))).bind fun y460 => (laws_markGameS.l0 k1 (y460.set (x5_1 : Int).toNat (⟨(rd_T95 y460 x5_1).f0, (rd_T95 y460 x5_1).f1, (rd_T95 y460 x5_1).f2, (rd_T95 y460 x5_1).f3, wrap64 ((wrap64 ((wrap64 ((wrap64 (x1_1 + 1)) + 1)) + 1)) + 1)⟩ : S95)) (wrap64 ((wrap64 ((wrap64 ((wrap64 ((wrap64 (x1_1 + 1)) + 1)) + 1)) + 1)) + 1)) (wrap64 (x5_1 + 1)))))) = some (r1, r2) := by first | (rw [hy457]; with_reducible exact H) | (have H2_ := (Option.bind_some _ _).symm.trans H; rw [hy457]; with_reducible exact H2_) | (have H2_ := (Option.bind_some _ _).symm.trans H; with_reducible exact H2_) | with_reducible exact H | (rw [hy457]; exact H) | exact H
     have Ny457 := dk hy457
     clear hy457
     obtain ⟨y458, hy458⟩ : ∃ y_ : List (S95), y_ = (y457.set (x5_1 : Int).toNat (⟨(rd_T95 y457 x5_1).f0, wrap64 (x1_1 + 1), (rd_T95 y457 x5_1).f2, (rd_T95 y457 x5_1).f3, (rd_T95 y457 x5_1).f4⟩ : S95)) := ⟨_, rfl⟩
     replace H : ((some (y458.set (x5_1 : Int).toNat (⟨(rd_T95 y458 x5_1).f0, (rd_T95 y458 x5_1).f1, wrap64 ((wrap64 (x1_1 + 1)) + 1), (rd_T95 y458 x5_1).f3, (rd_T95 y458 x5_1).f4⟩ : S95) : List (S95))).bind fun y459 => ((some (y459.set (x5_1 : Int).toNat (⟨(rd_T95 y459 x5_1).f0, (rd_T95 y459 x5_1).f1, (rd_T95 y459 x5_1).f2, wrap64 ((wrap64 ((wrap64 (x1_1 + 1)) + 1)) + 1), (rd_T95 y459 x5_1).f4⟩ : S95) : List (S95))).bind fun y460 => (laws_markGameS.l0 k1 (y460.set (x5_1 : Int).toNat (⟨(rd_T95 y460 x5_1).f0, (rd_T95 y460 x5_1).f1, (rd_T95 y460 x5_1).f2, (rd_T95 y460 x5_1).f3, wrap64 ((wrap64 ((wrap64 ((wrap64 (x1_1 + 1)) + 1)) + 1)) + 1)⟩ : S95)) (wrap64 ((wrap64 ((wrap64 ((wrap64 ((wrap64 (x1_1 + 1)) + 1)) + 1)) + 1)) + 1)) (wrap64 (x5_1 + 1))))) = some (r1, r2) := by first | (rw [hy458]; with_reducible exact H) | (have H2_ := (Option.bind_some _ _).symm.trans H; rw [hy458]; with_reducible exact H2_) | (have H2_ := (Option.bind_some _ _).symm.trans H; with_reducible exact H2_) | with_reducible exact H | (rw [hy458]; exact H) | exact H
     have Ny458 := dk hy458
     clear hy458
     obtain ⟨y459, hy459⟩ : ∃ y_ : List (S95), y_ = (y458.set (x5_1 : Int).toNat (⟨(rd_T95 y458 x5_1).f0, (rd_T95 y458 x5_1).f1, wrap64 ((wrap64 (x1_1 + 1)) + 1), (rd_T95 y458 x5_1).f3, (rd_T95 y458 x5_1).f4⟩ : S95)) := ⟨_, rfl⟩
     replace H : ((some (y459.set (x5_1 : Int).toNat (⟨(rd_T95 y459 x5_1).f0, (rd_T95 y459 x5_1).f1, (rd_T95 y459 x5_1).f2, wrap64 ((wrap64 ((wrap64 (x1_1 + 1)) + 1)) + 1), (rd_T95 y459 x5_1).f4⟩ : S95) : List (S95))).bind fun y460 => (laws_markGameS.l0 k1 (y460.set (x5_1 : Int).toNat (⟨(rd_T95 y460 x5_1).f0, (rd_T95 y460 x5_1).f1, (rd_T95 y460 x5_1).f2, (rd_T95 y460 x5_1).f3, wrap64 ((wrap64 ((wrap64 ((wrap64 (x1_1 + 1)) + 1)) + 1)) + 1)⟩ : S95)) (wrap64 ((wrap64 ((wrap64 ((wrap64 ((wrap64 (x1_1 + 1)) + 1)) + 1)) + 1)) + 1)) (wrap64 (x5_1 + 1)))) = some (r1, r2) := by first | (rw [hy459]; with_reducible exact H) | (have H2_ := (Option.bind_some _ _).symm.trans H; rw [hy459]; with_reducible exact H2_) | (have H2_ := (Option.bind_some _ _).symm.trans H; with_reducible exact H2_) | with_reducible exact H | (rw [hy459]; exact H) | exact H
     have Ny459 := dk hy459
     clear hy459
     obtain ⟨y460, hy460⟩ : ∃ y_ : List (S95), y_ = (y459.set (x5_1 : Int).toNat (⟨(rd_T95 y459 x5_1).f0, (rd_T95 y459 x5_1).f1, (rd_T95 y459 x5_1).f2, wrap64 ((wrap64 ((wrap64 (x1_1 + 1)) + 1)) + 1), (rd_T95 y459 x5_1).f4⟩ : S95)) := ⟨_, rfl⟩
     replace H : (laws_markGameS.l0 k1 (y460.set (x5_1 : Int).toNat (⟨(rd_T95 y460 x5_1).f0, (rd_T95 y460 x5_1).f1, (rd_T95 y460 x5_1).f2, (rd_T95 y460 x5_1).f3, wrap64 ((wrap64 ((wrap64 ((wrap64 (x1_1 + 1)) + 1)) + 1)) + 1)⟩ : S95)) (wrap64 ((wrap64 ((wrap64 ((wrap64 ((wrap64 (x1_1 + 1)) + 1)) + 1)) + 1)) + 1)) (wrap64 (x5_1 + 1))) = some (r1, r2) := by first | (rw [hy460]; with_reducible exact H) | (have H2_ := (Option.bind_some _ _).symm.trans H; rw [hy460]; with_reducible exact H2_) | (have H2_ := (Option.bind_some _ _).symm.trans H; with_reducible exact H2_) | with_reducible exact H | (rw [hy460]; exact H) | exact H
     have Ny460 := dk hy460
     clear hy460
     obtain ⟨y461, hy461⟩ : ∃ y_ : List (S95), y_ = (y460.set (x5_1 : Int).toNat (⟨(rd_T95 y460 x5_1).f0, (rd_T95 y460 x5_1).f1, (rd_T95 y460 x5_1).f2, (rd_T95 y460 x5_1).f3, wrap64 ((wrap64 ((wrap64 ((wrap64 (x1_1 + 1)) + 1)) + 1)) + 1)⟩ : S95)) := ⟨_, rfl⟩
     replace H : (laws_markGameS.l0 k1 y461 (wrap64 ((wrap64 ((wrap64 ((wrap64 ((wrap64 (x1_1 + 1)) + 1)) + 1)) + 1)) + 1)) (wrap64 (x5_1 + 1))) = some (r1, r2) := by first | (rw [hy461]; with_reducible exact H) | (have H2_ := (Option.bind_some _ _).symm.trans H; rw [hy461]; with_reducible exact H2_) | (have H2_ := (Option.bind_some _ _).symm.trans H; with_reducible exact H2_) | with_reducible exact H | (rw [hy461]; exact H) | exact H
     have Ny461 := dk hy461
     clear hy461
     have H' := dk H
     clear H
     obtain ⟨Ao10, co10, eo10⟩ := Kd.R_slice HO_0.out
     subst eo10
     have p5 : 0 ≤ (x5_1 : Int) := oa
     have q5 : (x5_1 : Int) < ((x0_1.length : Int) : Int) := oa
     obtain ⟨go5, co5, eo5, gb5, gl5, cl5, HG5⟩ := Kd.R_form HO_0.out (by omega)
     (first | cases eo5 | (injection eo5 with ea_ en_ ec_; (first | subst ea_ | (injection ea_ with ea_; subst ea_)); subst ec_; clear en_))
     have GB5 := dk gb5
     have GG5 := dk HG5
     clear gb5 gl5 HG5
     have HMgo5 := dk (show (P0_ go5 ∨ w.heap.size ≤ go5) from (HO_0.out.1 _ rfl))
     obtain ⟨ce5, hcl5, hM5, hcc5, hfr5⟩ := Kd.R_elem HO_0.out z95 (x5_1 : Int) p5 q5
     obtain rfl := k95_openM hM5
     have hx5_0 : wr.cell? ⟨go5, (x5_1 : Int).toNat * 5, none⟩ = some (.int .i64 ((rd_T95 x0_1 x5_1).f0)) := hcc5 0 _ rfl
     have hx5_1 : wr.cell? ⟨go5, (x5_1 : Int).toNat * 5 + 1, none⟩ = some (.int .i64 ((rd_T95 x0_1 x5_1).f1)) := hcc5 1 _ rfl
     have hx5_2 : wr.cell? ⟨go5, (x5_1 : Int).toNat * 5 + 2, none⟩ = some (.int .i64 ((rd_T95 x0_1 x5_1).f2)) := hcc5 2 _ rfl
     have hx5_3 : wr.cell? ⟨go5, (x5_1 : Int).toNat * 5 + 3, none⟩ = some (.int .i64 ((rd_T95 x0_1 x5_1).f3)) := hcc5 3 _ rfl
     have hx5_4 : wr.cell? ⟨go5, (x5_1 : Int).toNat * 5 + 4, none⟩ = some (.int .i64 ((rd_T95 x0_1 x5_1).f4)) := hcc5 4 _ rfl
     have hf5_0 : wr.frozen? ⟨go5, (x5_1 : Int).toNat * 5, none⟩ = false := hfr5 0
     have hf5_1 : wr.frozen? ⟨go5, (x5_1 : Int).toNat * 5 + 1, none⟩ = false := hfr5 1
     have hf5_2 : wr.frozen? ⟨go5, (x5_1 : Int).toNat * 5 + 2, none⟩ = false := hfr5 2
     have hf5_3 : wr.frozen? ⟨go5, (x5_1 : Int).toNat * 5 + 3, none⟩ = false := hfr5 3
     have hf5_4 : wr.frozen? ⟨go5, (x5_1 : Int).toNat * 5 + 4, none⟩ = false := hfr5 4
     clear hcl5 hcc5 hfr5; (try clear hM5)
     replace p5 := eq_true p5
     replace q5 := eq_true q5
     have HX11 := dk (show Kd.R k95 95 wr w0.heap.size (fun k_ => (P0_ k_ ∨ w.heap.size ≤ k_)) (.slice (some ⟨go5, 0, none⟩) x0_1.length co10) x0_1 from (rr HO_0))
     obtain ⟨ce11, hcl11, hM11, hcc11, hfr11⟩ := Kd.R_elem HX11.out z95 (x5_1 : Int) (oa) (by have h_ : (x5_1 : Int) < ((x0_1.length : Int) : Int) := oa; first | exact h_ | (have e_ := (Kd.R_reads' HO_0.out).1; omega) | simpa using h_)
     obtain rfl := k95_openM hM11
     have HP11 := Kd.R_seg HX11.out (x5_1 : Int) (oa) (by have h_ : (x5_1 : Int) < ((x0_1.length : Int) : Int) := oa; first | exact h_ | (have e_ := (Kd.R_reads' HO_0.out).1; omega) | simpa using h_) (seg := [.int .i64 x1_1]) (j := 0) hcl11 hcc11 (show 1 ≤ 5 from by decide) (x' := (⟨x1_1, (rd_T95 x0_1 x5_1).f1, (rd_T95 x0_1 x5_1).f2, (rd_T95 x0_1 x5_1).f3, (rd_T95 x0_1 x5_1).f4⟩ : S95)) (k95_mkM _ _ _ (⟨x1_1, (rd_T95 x0_1 x5_1).f1, (rd_T95 x0_1 x5_1).f2, (rd_T95 x0_1 x5_1).f3, (rd_T95 x0_1 x5_1).f4⟩ : S95) ) (fun _ hk => hk)
     have hx11_0 := hcc11 0 _ rfl
     (try simp only [show (k95).sz = 5 from rfl, Nat.mul_one, Nat.add_zero] at hx11_0)
     have hf11_0 := hfr11 0
     (try simp only [show (k95).sz = 5 from rfl, Nat.mul_one, Nat.add_zero] at hf11_0)
     clear hcl11 hcc11 hfr11; (try clear hM11)
     go_wp2_with (first | ((with_reducible refine gate_store (t := 3) (p := 16) rfl ?_); refine store_event (t := 3) (p := 16) (v := ?vo_w12) (w1 := (wr.setCell ⟨go5, (x5_1 : Int).toNat * 5, none⟩ (.int .i64 x1_1))) ?hg ?ho ?hn ?hr ?_; (case ho => rfl); (case hg => rfl); (case hn => rfl); (case hr => first | (go_simp; done) | (go_simp; rfl)); intro w12 hw; have hg : wr.grownBy w12 (some go5) := (by rw [hw]; exact HP11.2); have hp_ : Kd.R k95 95 w12 w0.heap.size (fun k_ => (P0_ k_ ∨ w.heap.size ≤ k_)) (.slice (some ⟨go5, 0, none⟩) x0_1.length co10) y457 := (by rw [hw, Ny457.out]; exact HP11.1); clear HP11; replace HB := dk (by rw [hw]; exact below_set (HB.out) GB5.out : Below w0.heap.size w0 w12); replace HK := dk (Kept.of_grown (S := (fun k_ => P0_ k_)) hg (by repeat (first | (with_reducible first | exact HK.out | apply Kept.alloc | apply Kept.drewN | apply Kept.drew) | exact HK.out)) (fun k_ e_ => (HO_0.out.1 k_ e_))); replace HO_0 := dk (hp_); clear hg hw hp_; have p6 : 0 ≤ (x5_1 : Int) := oa; have q6 : (x5_1 : Int) < ((x0_1.length : Int) : Int) := oa; obtain ⟨ce6, hcl6, hM6, hcc6, hfr6⟩ := Kd.R_elem HO_0.out z95 (x5_1 : Int) p6 q6; obtain rfl := k95_openM hM6; have hx6_0 : w12.cell? ⟨go5, (x5_1 : Int).toNat * 5, none⟩ = some (.int .i64 ((rd_T95 y457 x5_1).f0)) := hcc6 0 _ rfl; have hx6_1 : w12.cell? ⟨go5, (x5_1 : Int).toNat * 5 + 1, none⟩ = some (.int .i64 ((rd_T95 y457 x5_1).f1)) := hcc6 1 _ rfl; have hx6_2 : w12.cell? ⟨go5, (x5_1 : Int).toNat * 5 + 2, none⟩ = some (.int .i64 ((rd_T95 y457 x5_1).f2)) := hcc6 2 _ rfl; have hx6_3 : w12.cell? ⟨go5, (x5_1 : Int).toNat * 5 + 3, none⟩ = some (.int .i64 ((rd_T95 y457 x5_1).f3)) := hcc6 3 _ rfl; have hx6_4 : w12.cell? ⟨go5, (x5_1 : Int).toNat * 5 + 4, none⟩ = some (.int .i64 ((rd_T95 y457 x5_1).f4)) := hcc6 4 _ rfl; have hf6_0 : w12.frozen? ⟨go5, (x5_1 : Int).toNat * 5, none⟩ = false := hfr6 0; have hf6_1 : w12.frozen? ⟨go5, (x5_1 : Int).toNat * 5 + 1, none⟩ = false := hfr6 1; have hf6_2 : w12.frozen? ⟨go5, (x5_1 : Int).toNat * 5 + 2, none⟩ = false := hfr6 2; have hf6_3 : w12.frozen? ⟨go5, (x5_1 : Int).toNat * 5 + 3, none⟩ = false := hfr6 3; have hf6_4 : w12.frozen? ⟨go5, (x5_1 : Int).toNat * 5 + 4, none⟩ = false := hfr6 4; clear hcl6 hcc6 hfr6; (try clear hM6); replace p6 := eq_true p6; replace q6 := eq_true q6; have HX13 := dk (show Kd.R k95 95 w12 w0.heap.size (fun k_ => (P0_ k_ ∨ w.heap.size ≤ k_)) (.slice (some ⟨go5, 0, none⟩) x0_1.length co10) y457 from (rr HO_0)); obtain ⟨ce13, hcl13, hM13, hcc13, hfr13⟩ := Kd.R_elem HX13.out z95 (x5_1 : Int) (oa) (by have h_ : (x5_1 : Int) < ((x0_1.length : Int) : Int) := oa; first | exact h_ | (have e_ := (Kd.R_reads' HO_0.out).1; omega) | simpa using h_); obtain rfl := k95_openM hM13; have HP13 := Kd.R_seg HX13.out (x5_1 : Int) (oa) (by have h_ : (x5_1 : Int) < ((x0_1.length : Int) : Int) := oa; first | exact h_ | (have e_ := (Kd.R_reads' HO_0.out).1; omega) | simpa using h_) (seg := [.int .i64 (wrap64 (x1_1 + 1))]) (j := 1) hcl13 hcc13 (show 2 ≤ 5 from by decide) (x' := (⟨(rd_T95 y457 x5_1).f0, wrap64 (x1_1 + 1), (rd_T95 y457 x5_1).f2, (rd_T95 y457 x5_1).f3, (rd_T95 y457 x5_1).f4⟩ : S95)) (k95_mkM _ _ _ (⟨(rd_T95 y457 x5_1).f0, wrap64 (x1_1 + 1), (rd_T95 y457 x5_1).f2, (rd_T95 y457 x5_1).f3, (rd_T95 y457 x5_1).f4⟩ : S95) ) (fun _ hk => hk); have hx13_1 := hcc13 1 _ rfl; (try simp only [show (k95).sz = 5 from rfl, Nat.mul_one, Nat.add_zero] at hx13_1); have hf13_1 := hfr13 1; (try simp only [show (k95).sz = 5 from rfl, Nat.mul_one, Nat.add_zero] at hf13_1); clear hcl13 hcc13 hfr13; (try clear hM13)) | ((with_reducible refine gate_store (t := 3) (p := 23) rfl ?_); refine store_event (t := 3) (p := 23) (v := ?vo_w14) (w1 := (w12.setCell ⟨go5, (x5_1 : Int).toNat * 5 + 1, none⟩ (.int .i64 (wrap64 (x1_1 + 1))))) ?hg ?ho ?hn ?hr ?_; (case ho => rfl); (case hg => rfl); (case hn => rfl); (case hr => first | (go_simp; done) | (go_simp; rfl)); intro w14 hw; have hg : w12.grownBy w14 (some go5) := (by rw [hw]; exact HP13.2); have hp_ : Kd.R k95 95 w14 w0.heap.size (fun k_ => (P0_ k_ ∨ w.heap.size ≤ k_)) (.slice (some ⟨go5, 0, none⟩) x0_1.length co10) y458 := (by rw [hw, Ny458.out]; exact HP13.1); clear HP13; replace HB := dk (by rw [hw]; exact below_set (HB.out) GB5.out : Below w0.heap.size w0 w14); replace HK := dk (Kept.of_grown (S := (fun k_ => P0_ k_)) hg (by repeat (first | (with_reducible first | exact HK.out | apply Kept.alloc | apply Kept.drewN | apply Kept.drew) | exact HK.out)) (fun k_ e_ => (HO_0.out.1 k_ e_))); replace HO_0 := dk (hp_); clear hg hw hp_; have p7 : 0 ≤ (x5_1 : Int) := oa; have q7 : (x5_1 : Int) < ((x0_1.length : Int) : Int) := oa; obtain ⟨ce7, hcl7, hM7, hcc7, hfr7⟩ := Kd.R_elem HO_0.out z95 (x5_1 : Int) p7 q7; obtain rfl := k95_openM hM7; have hx7_0 : w14.cell? ⟨go5, (x5_1 : Int).toNat * 5, none⟩ = some (.int .i64 ((rd_T95 y458 x5_1).f0)) := hcc7 0 _ rfl; have hx7_1 : w14.cell? ⟨go5, (x5_1 : Int).toNat * 5 + 1, none⟩ = some (.int .i64 ((rd_T95 y458 x5_1).f1)) := hcc7 1 _ rfl; have hx7_2 : w14.cell? ⟨go5, (x5_1 : Int).toNat * 5 + 2, none⟩ = some (.int .i64 ((rd_T95 y458 x5_1).f2)) := hcc7 2 _ rfl; have hx7_3 : w14.cell? ⟨go5, (x5_1 : Int).toNat * 5 + 3, none⟩ = some (.int .i64 ((rd_T95 y458 x5_1).f3)) := hcc7 3 _ rfl; have hx7_4 : w14.cell? ⟨go5, (x5_1 : Int).toNat * 5 + 4, none⟩ = some (.int .i64 ((rd_T95 y458 x5_1).f4)) := hcc7 4 _ rfl; have hf7_0 : w14.frozen? ⟨go5, (x5_1 : Int).toNat * 5, none⟩ = false := hfr7 0; have hf7_1 : w14.frozen? ⟨go5, (x5_1 : Int).toNat * 5 + 1, none⟩ = false := hfr7 1; have hf7_2 : w14.frozen? ⟨go5, (x5_1 : Int).toNat * 5 + 2, none⟩ = false := hfr7 2; have hf7_3 : w14.frozen? ⟨go5, (x5_1 : Int).toNat * 5 + 3, none⟩ = false := hfr7 3; have hf7_4 : w14.frozen? ⟨go5, (x5_1 : Int).toNat * 5 + 4, none⟩ = false := hfr7 4; clear hcl7 hcc7 hfr7; (try clear hM7); replace p7 := eq_true p7; replace q7 := eq_true q7; have HX15 := dk (show Kd.R k95 95 w14 w0.heap.size (fun k_ => (P0_ k_ ∨ w.heap.size ≤ k_)) (.slice (some ⟨go5, 0, none⟩) x0_1.length co10) y458 from (rr HO_0)); obtain ⟨ce15, hcl15, hM15, hcc15, hfr15⟩ := Kd.R_elem HX15.out z95 (x5_1 : Int) (oa) (by have h_ : (x5_1 : Int) < ((x0_1.length : Int) : Int) := oa; first | exact h_ | (have e_ := (Kd.R_reads' HO_0.out).1; omega) | simpa using h_); obtain rfl := k95_openM hM15; have HP15 := Kd.R_seg HX15.out (x5_1 : Int) (oa) (by have h_ : (x5_1 : Int) < ((x0_1.length : Int) : Int) := oa; first | exact h_ | (have e_ := (Kd.R_reads' HO_0.out).1; omega) | simpa using h_) (seg := [.int .i64 (wrap64 ((wrap64 (x1_1 + 1)) + 1))]) (j := 2) hcl15 hcc15 (show 3 ≤ 5 from by decide) (x' := (⟨(rd_T95 y458 x5_1).f0, (rd_T95 y458 x5_1).f1, wrap64 ((wrap64 (x1_1 + 1)) + 1), (rd_T95 y458 x5_1).f3, (rd_T95 y458 x5_1).f4⟩ : S95)) (k95_mkM _ _ _ (⟨(rd_T95 y458 x5_1).f0, (rd_T95 y458 x5_1).f1, wrap64 ((wrap64 (x1_1 + 1)) + 1), (rd_T95 y458 x5_1).f3, (rd_T95 y458 x5_1).f4⟩ : S95) ) (fun _ hk => hk); have hx15_2 := hcc15 2 _ rfl; (try simp only [show (k95).sz = 5 from rfl, Nat.mul_one, Nat.add_zero] at hx15_2); have hf15_2 := hfr15 2; (try simp only [show (k95).sz = 5 from rfl, Nat.mul_one, Nat.add_zero] at hf15_2); clear hcl15 hcc15 hfr15; (try clear hM15)) | ((with_reducible refine gate_store (t := 3) (p := 30) rfl ?_); refine store_event (t := 3) (p := 30) (v := ?vo_w16) (w1 := (w14.setCell ⟨go5, (x5_1 : Int).toNat * 5 + 2, none⟩ (.int .i64 (wrap64 ((wrap64 (x1_1 + 1)) + 1))))) ?hg ?ho ?hn ?hr ?_; (case ho => rfl); (case hg => rfl); (case hn => rfl); (case hr => first | (go_simp; done) | (go_simp; rfl)); intro w16 hw; have hg : w14.grownBy w16 (some go5) := (by rw [hw]; exact HP15.2); have hp_ : Kd.R k95 95 w16 w0.heap.size (fun k_ => (P0_ k_ ∨ w.heap.size ≤ k_)) (.slice (some ⟨go5, 0, none⟩) x0_1.length co10) y459 := (by rw [hw, Ny459.out]; exact HP15.1); clear HP15; replace HB := dk (by rw [hw]; exact below_set (HB.out) GB5.out : Below w0.heap.size w0 w16); replace HK := dk (Kept.of_grown (S := (fun k_ => P0_ k_)) hg (by repeat (first | (with_reducible first | exact HK.out | apply Kept.alloc | apply Kept.drewN | apply Kept.drew) | exact HK.out)) (fun k_ e_ => (HO_0.out.1 k_ e_))); replace HO_0 := dk (hp_); clear hg hw hp_; have p8 : 0 ≤ (x5_1 : Int) := oa; have q8 : (x5_1 : Int) < ((x0_1.length : Int) : Int) := oa; obtain ⟨ce8, hcl8, hM8, hcc8, hfr8⟩ := Kd.R_elem HO_0.out z95 (x5_1 : Int) p8 q8; obtain rfl := k95_openM hM8; have hx8_0 : w16.cell? ⟨go5, (x5_1 : Int).toNat * 5, none⟩ = some (.int .i64 ((rd_T95 y459 x5_1).f0)) := hcc8 0 _ rfl; have hx8_1 : w16.cell? ⟨go5, (x5_1 : Int).toNat * 5 + 1, none⟩ = some (.int .i64 ((rd_T95 y459 x5_1).f1)) := hcc8 1 _ rfl; have hx8_2 : w16.cell? ⟨go5, (x5_1 : Int).toNat * 5 + 2, none⟩ = some (.int .i64 ((rd_T95 y459 x5_1).f2)) := hcc8 2 _ rfl; have hx8_3 : w16.cell? ⟨go5, (x5_1 : Int).toNat * 5 + 3, none⟩ = some (.int .i64 ((rd_T95 y459 x5_1).f3)) := hcc8 3 _ rfl; have hx8_4 : w16.cell? ⟨go5, (x5_1 : Int).toNat * 5 + 4, none⟩ = some (.int .i64 ((rd_T95 y459 x5_1).f4)) := hcc8 4 _ rfl; have hf8_0 : w16.frozen? ⟨go5, (x5_1 : Int).toNat * 5, none⟩ = false := hfr8 0; have hf8_1 : w16.frozen? ⟨go5, (x5_1 : Int).toNat * 5 + 1, none⟩ = false := hfr8 1; have hf8_2 : w16.frozen? ⟨go5, (x5_1 : Int).toNat * 5 + 2, none⟩ = false := hfr8 2; have hf8_3 : w16.frozen? ⟨go5, (x5_1 : Int).toNat * 5 + 3, none⟩ = false := hfr8 3; have hf8_4 : w16.frozen? ⟨go5, (x5_1 : Int).toNat * 5 + 4, none⟩ = false := hfr8 4; clear hcl8 hcc8 hfr8; (try clear hM8); replace p8 := eq_true p8; replace q8 := eq_true q8; have HX17 := dk (show Kd.R k95 95 w16 w0.heap.size (fun k_ => (P0_ k_ ∨ w.heap.size ≤ k_)) (.slice (some ⟨go5, 0, none⟩) x0_1.length co10) y459 from (rr HO_0)); obtain ⟨ce17, hcl17, hM17, hcc17, hfr17⟩ := Kd.R_elem HX17.out z95 (x5_1 : Int) (oa) (by have h_ : (x5_1 : Int) < ((x0_1.length : Int) : Int) := oa; first | exact h_ | (have e_ := (Kd.R_reads' HO_0.out).1; omega) | simpa using h_); obtain rfl := k95_openM hM17; have HP17 := Kd.R_seg HX17.out (x5_1 : Int) (oa) (by have h_ : (x5_1 : Int) < ((x0_1.length : Int) : Int) := oa; first | exact h_ | (have e_ := (Kd.R_reads' HO_0.out).1; omega) | simpa using h_) (seg := [.int .i64 (wrap64 ((wrap64 ((wrap64 (x1_1 + 1)) + 1)) + 1))]) (j := 3) hcl17 hcc17 (show 4 ≤ 5 from by decide) (x' := (⟨(rd_T95 y459 x5_1).f0, (rd_T95 y459 x5_1).f1, (rd_T95 y459 x5_1).f2, wrap64 ((wrap64 ((wrap64 (x1_1 + 1)) + 1)) + 1), (rd_T95 y459 x5_1).f4⟩ : S95)) (k95_mkM _ _ _ (⟨(rd_T95 y459 x5_1).f0, (rd_T95 y459 x5_1).f1, (rd_T95 y459 x5_1).f2, wrap64 ((wrap64 ((wrap64 (x1_1 + 1)) + 1)) + 1), (rd_T95 y459 x5_1).f4⟩ : S95) ) (fun _ hk => hk); have hx17_3 := hcc17 3 _ rfl; (try simp only [show (k95).sz = 5 from rfl, Nat.mul_one, Nat.add_zero] at hx17_3); have hf17_3 := hfr17 3; (try simp only [show (k95).sz = 5 from rfl, Nat.mul_one, Nat.add_zero] at hf17_3); clear hcl17 hcc17 hfr17; (try clear hM17)) | ((with_reducible refine gate_store (t := 3) (p := 37) rfl ?_); refine store_event (t := 3) (p := 37) (v := ?vo_w18) (w1 := (w16.setCell ⟨go5, (x5_1 : Int).toNat * 5 + 3, none⟩ (.int .i64 (wrap64 ((wrap64 ((wrap64 (x1_1 + 1)) + 1)) + 1))))) ?hg ?ho ?hn ?hr ?_; (case ho => rfl); (case hg => rfl); (case hn => rfl); (case hr => first | (go_simp; done) | (go_simp; rfl)); intro w18 hw; have hg : w16.grownBy w18 (some go5) := (by rw [hw]; exact HP17.2); have hp_ : Kd.R k95 95 w18 w0.heap.size (fun k_ => (P0_ k_ ∨ w.heap.size ≤ k_)) (.slice (some ⟨go5, 0, none⟩) x0_1.length co10) y460 := (by rw [hw, Ny460.out]; exact HP17.1); clear HP17; replace HB := dk (by rw [hw]; exact below_set (HB.out) GB5.out : Below w0.heap.size w0 w18); replace HK := dk (Kept.of_grown (S := (fun k_ => P0_ k_)) hg (by repeat (first | (with_reducible first | exact HK.out | apply Kept.alloc | apply Kept.drewN | apply Kept.drew) | exact HK.out)) (fun k_ e_ => (HO_0.out.1 k_ e_))); replace HO_0 := dk (hp_); clear hg hw hp_; have p9 : 0 ≤ (x5_1 : Int) := oa; have q9 : (x5_1 : Int) < ((x0_1.length : Int) : Int) := oa; obtain ⟨ce9, hcl9, hM9, hcc9, hfr9⟩ := Kd.R_elem HO_0.out z95 (x5_1 : Int) p9 q9; obtain rfl := k95_openM hM9; have hx9_0 : w18.cell? ⟨go5, (x5_1 : Int).toNat * 5, none⟩ = some (.int .i64 ((rd_T95 y460 x5_1).f0)) := hcc9 0 _ rfl; have hx9_1 : w18.cell? ⟨go5, (x5_1 : Int).toNat * 5 + 1, none⟩ = some (.int .i64 ((rd_T95 y460 x5_1).f1)) := hcc9 1 _ rfl; have hx9_2 : w18.cell? ⟨go5, (x5_1 : Int).toNat * 5 + 2, none⟩ = some (.int .i64 ((rd_T95 y460 x5_1).f2)) := hcc9 2 _ rfl; have hx9_3 : w18.cell? ⟨go5, (x5_1 : Int).toNat * 5 + 3, none⟩ = some (.int .i64 ((rd_T95 y460 x5_1).f3)) := hcc9 3 _ rfl; have hx9_4 : w18.cell? ⟨go5, (x5_1 : Int).toNat * 5 + 4, none⟩ = some (.int .i64 ((rd_T95 y460 x5_1).f4)) := hcc9 4 _ rfl; have hf9_0 : w18.frozen? ⟨go5, (x5_1 : Int).toNat * 5, none⟩ = false := hfr9 0; have hf9_1 : w18.frozen? ⟨go5, (x5_1 : Int).toNat * 5 + 1, none⟩ = false := hfr9 1; have hf9_2 : w18.frozen? ⟨go5, (x5_1 : Int).toNat * 5 + 2, none⟩ = false := hfr9 2; have hf9_3 : w18.frozen? ⟨go5, (x5_1 : Int).toNat * 5 + 3, none⟩ = false := hfr9 3; have hf9_4 : w18.frozen? ⟨go5, (x5_1 : Int).toNat * 5 + 4, none⟩ = false := hfr9 4; clear hcl9 hcc9 hfr9; (try clear hM9); replace p9 := eq_true p9; replace q9 := eq_true q9; have HX19 := dk (show Kd.R k95 95 w18 w0.heap.size (fun k_ => (P0_ k_ ∨ w.heap.size ≤ k_)) (.slice (some ⟨go5, 0, none⟩) x0_1.length co10) y460 from (rr HO_0)); obtain ⟨ce19, hcl19, hM19, hcc19, hfr19⟩ := Kd.R_elem HX19.out z95 (x5_1 : Int) (oa) (by have h_ : (x5_1 : Int) < ((x0_1.length : Int) : Int) := oa; first | exact h_ | (have e_ := (Kd.R_reads' HO_0.out).1; omega) | simpa using h_); obtain rfl := k95_openM hM19; have HP19 := Kd.R_seg HX19.out (x5_1 : Int) (oa) (by have h_ : (x5_1 : Int) < ((x0_1.length : Int) : Int) := oa; first | exact h_ | (have e_ := (Kd.R_reads' HO_0.out).1; omega) | simpa using h_) (seg := [.int .i64 (wrap64 ((wrap64 ((wrap64 ((wrap64 (x1_1 + 1)) + 1)) + 1)) + 1))]) (j := 4) hcl19 hcc19 (show 5 ≤ 5 from by decide) (x' := (⟨(rd_T95 y460 x5_1).f0, (rd_T95 y460 x5_1).f1, (rd_T95 y460 x5_1).f2, (rd_T95 y460 x5_1).f3, wrap64 ((wrap64 ((wrap64 ((wrap64 (x1_1 + 1)) + 1)) + 1)) + 1)⟩ : S95)) (k95_mkM _ _ _ (⟨(rd_T95 y460 x5_1).f0, (rd_T95 y460 x5_1).f1, (rd_T95 y460 x5_1).f2, (rd_T95 y460 x5_1).f3, wrap64 ((wrap64 ((wrap64 ((wrap64 (x1_1 + 1)) + 1)) + 1)) + 1)⟩ : S95) ) (fun _ hk => hk); have hx19_4 := hcc19 4 _ rfl; (try simp only [show (k95).sz = 5 from rfl, Nat.mul_one, Nat.add_zero] at hx19_4); have hf19_4 := hfr19 4; (try simp only [show (k95).sz = 5 from rfl, Nat.mul_one, Nat.add_zero] at hf19_4); clear hcl19 hcc19 hfr19; (try clear hM19)) | ((with_reducible refine gate_store (t := 3) (p := 44) rfl ?_); refine store_event (t := 3) (p := 44) (v := ?vo_w20) (w1 := (w18.setCell ⟨go5, (x5_1 : Int).toNat * 5 + 4, none⟩ (.int .i64 (wrap64 ((wrap64 ((wrap64 ((wrap64 (x1_1 + 1)) + 1)) + 1)) + 1))))) ?hg ?ho ?hn ?hr ?_; (case ho => rfl); (case hg => rfl); (case hn => rfl); (case hr => first | (go_simp; done) | (go_simp; rfl)); intro w20 hw; have hg : w18.grownBy w20 (some go5) := (by rw [hw]; exact HP19.2); have hp_ : Kd.R k95 95 w20 w0.heap.size (fun k_ => (P0_ k_ ∨ w.heap.size ≤ k_)) (.slice (some ⟨go5, 0, none⟩) x0_1.length co10) y461 := (by rw [hw, Ny461.out]; exact HP19.1); clear HP19; replace HB := dk (by rw [hw]; exact below_set (HB.out) GB5.out : Below w0.heap.size w0 w20); replace HK := dk (Kept.of_grown (S := (fun k_ => P0_ k_)) hg (by repeat (first | (with_reducible first | exact HK.out | apply Kept.alloc | apply Kept.drewN | apply Kept.drew) | exact HK.out)) (fun k_ e_ => (HO_0.out.1 k_ e_))); replace HO_0 := dk (hp_); clear hg hw hp_))
     go_roundg k1
     case measure => have := HK1.out; omega
     case rel => exact ⟨(y461), (wrap64 ((wrap64 ((wrap64 ((wrap64 ((wrap64 (x1_1 + 1)) + 1)) + 1)) + 1)) + 1)), (wrap64 (x5_1 + 1)), e2_, e2_, H', ⟨by have := HK1.out; omega⟩, ⟨rr HO_0⟩, ⟨by repeat (first | (with_reducible first | exact HK.out | apply Kept.alloc | apply Kept.drewN | apply Kept.drew) | exact HK.out)⟩, ⟨bb HB⟩⟩
    ·rw [if_neg c4] at H
     exact absurd H (by simp)
   ·rw [if_neg c3] at H
    have c3b0 : decide (x5_1 < (x0_1.length : Int)) = false := decide_eq_false c3
    clear c3
    simp only [Option.some.injEq, Prod.mk.injEq] at H
    obtain ⟨rfl, rfl⟩ := H
    obtain ⟨Ao21, co21, eo21⟩ := Kd.R_slice HO_0.out
    subst eo21
    go_wp2
    go_ret
    exact ⟨ee, rr HO_0, bb HB, by repeat (first | (with_reducible first | exact HK.out | apply Kept.alloc | apply Kept.drewN | apply Kept.drew) | exact HK.out)⟩
def laws_markBook.f (k : Nat) (l0_0 : List (S139)) (a0_1 : Int) (a0_2 : Int) (a0_3 : Int) (l0_4 : List Int) (a0_5 : Bool) (l0_6 : List (S95)) (l0_7 : List Int) (l0_8 : List Int) (a1 : Int) : Option (Int × (List (S139)) × List Int × (List (S95)) × List Int × List Int) := (laws_markTeamS.f k l0_0 a1).bind fun bt463 => ((laws_markRules.f k a0_1 a0_2 a0_3 l0_4 a0_5 bt463.1).bind fun bt465 => ((laws_markGameS.f k l0_6 bt465.1).bind fun bt467 => ((laws_markIntS.f k l0_7 bt467.1).bind fun bt469 => ((laws_markIntS.f k l0_8 bt469.1).bind fun bt471 => (some (bt471.1, bt463.2, bt465.2, bt467.2, bt469.2, bt471.2))))))
theorem laws_markBook.calls (k : Nat) (P0_0_ : Nat → Prop) (u9000_ : Value) (l0_0 : List (S139)) (a0_1 : Int) (a0_2 : Int) (a0_3 : Int) (P0_4_ : Nat → Prop) (u9001_ : Value) (l0_4 : List Int) (a0_5 : Bool) (P0_6_ : Nat → Prop) (u9002_ : Value) (l0_6 : List (S95)) (P0_7_ : Nat → Prop) (u9003_ : Value) (l0_7 : List Int) (P0_8_ : Nat → Prop) (u9004_ : Value) (l0_8 : List Int) (a1 : Int) (r1 : Int) (r2 : List (S139)) (r3 : List Int) (r4 : List (S95)) (r5 : List Int) (r6 : List Int) (w0 w : World) (hB : Below w0.heap.size w0 w) (ho0_0 : Kd.R k139 139 w w0.heap.size P0_0_ u9000_ l0_0) (ho0_4 : Kd.R (Kd.int .i64) 3 w w0.heap.size P0_4_ u9001_ l0_4) (hp0_4_0_7 : ∀ k_, P0_4_ k_ → ¬ P0_7_ k_) (hp0_4_0_8 : ∀ k_, P0_4_ k_ → ¬ P0_8_ k_) (ho0_6 : Kd.R k95 95 w w0.heap.size P0_6_ u9002_ l0_6) (ho0_7 : Kd.R (Kd.int .i64) 3 w w0.heap.size P0_7_ u9003_ l0_7) (hp0_7_0_4 : ∀ k_, P0_7_ k_ → ¬ P0_4_ k_) (hp0_7_0_8 : ∀ k_, P0_7_ k_ → ¬ P0_8_ k_) (ho0_8 : Kd.R (Kd.int .i64) 3 w w0.heap.size P0_8_ u9004_ l0_8) (hp0_8_0_4 : ∀ k_, P0_8_ k_ → ¬ P0_4_ k_) (hp0_8_0_7 : ∀ k_, P0_8_ k_ → ¬ P0_7_ k_) (h : laws_markBook.f k l0_0 a0_1 a0_2 a0_3 l0_4 a0_5 l0_6 l0_7 l0_8 a1 = some (r1, r2, r3, r4, r5, r6)) :
  Calls Try.prog 18 #[.agg #[u9000_, .int .i64 a0_1, .int .i64 a0_2, .int .i64 a0_3, u9001_, .bool a0_5, u9002_, u9003_, u9004_], .int .i64 a1] w fun e w' => e = .returned (.int .i64 r1) ∧ Kd.R k139 139 w' w0.heap.size (fun k_ => ((P0_0_ k_ ∨ P0_4_ k_ ∨ P0_6_ k_ ∨ P0_7_ k_ ∨ P0_8_ k_) ∨ w.heap.size ≤ k_)) u9000_ r2 ∧ Kd.R (Kd.int .i64) 3 w' w0.heap.size (fun k_ => ((P0_0_ k_ ∨ P0_4_ k_ ∨ P0_6_ k_ ∨ P0_7_ k_ ∨ P0_8_ k_) ∨ w.heap.size ≤ k_)) u9001_ r3 ∧ Kd.R k95 95 w' w0.heap.size (fun k_ => ((P0_0_ k_ ∨ P0_4_ k_ ∨ P0_6_ k_ ∨ P0_7_ k_ ∨ P0_8_ k_) ∨ w.heap.size ≤ k_)) u9002_ r4 ∧ Kd.R (Kd.int .i64) 3 w' w0.heap.size (fun k_ => ((P0_0_ k_ ∨ P0_4_ k_ ∨ P0_6_ k_ ∨ P0_7_ k_ ∨ P0_8_ k_) ∨ w.heap.size ≤ k_)) u9003_ r5 ∧ Kd.R (Kd.int .i64) 3 w' w0.heap.size (fun k_ => ((P0_0_ k_ ∨ P0_4_ k_ ∨ P0_6_ k_ ∨ P0_7_ k_ ∨ P0_8_ k_) ∨ w.heap.size ≤ k_)) u9004_ r6 ∧ Below w0.heap.size w0 w' ∧ Kept w w' (fun k_ => P0_0_ k_ ∨ P0_4_ k_ ∨ P0_6_ k_ ∨ P0_7_ k_ ∨ P0_8_ k_) := by
 have hu36 := Try.underlying36
 have hu33 := Try.underlying33
 have HO0_0 := dk (show Kd.R k139 139 w w0.heap.size (fun k_ => ((P0_0_ k_ ∨ P0_4_ k_ ∨ P0_6_ k_ ∨ P0_7_ k_ ∨ P0_8_ k_) ∨ w.heap.size ≤ k_)) u9000_ l0_0 from Kd.R_mono ho0_0 (fun k_ hk => (.inl (.inl hk))))
 have HO0_4 := dk (show Kd.R (Kd.int .i64) 3 w w0.heap.size (fun k_ => ((P0_0_ k_ ∨ P0_4_ k_ ∨ P0_6_ k_ ∨ P0_7_ k_ ∨ P0_8_ k_) ∨ w.heap.size ≤ k_) ∧ some k_ ≠ (u9003_ : Value).ownBlock ∧ some k_ ≠ (u9004_ : Value).ownBlock) u9001_ l0_4 from Kd.R_mono ho0_4 (fun k_ hk => ⟨(.inl (.inr (.inl hk))), fun e_ => hp0_4_0_7 k_ hk (ho0_7.1 k_ e_.symm), fun e_ => hp0_4_0_8 k_ hk (ho0_8.1 k_ e_.symm)⟩))
 have HO0_6 := dk (show Kd.R k95 95 w w0.heap.size (fun k_ => ((P0_0_ k_ ∨ P0_4_ k_ ∨ P0_6_ k_ ∨ P0_7_ k_ ∨ P0_8_ k_) ∨ w.heap.size ≤ k_)) u9002_ l0_6 from Kd.R_mono ho0_6 (fun k_ hk => (.inl (.inr (.inr (.inl hk))))))
 have HO0_7 := dk (show Kd.R (Kd.int .i64) 3 w w0.heap.size (fun k_ => ((P0_0_ k_ ∨ P0_4_ k_ ∨ P0_6_ k_ ∨ P0_7_ k_ ∨ P0_8_ k_) ∨ w.heap.size ≤ k_) ∧ some k_ ≠ (u9001_ : Value).ownBlock ∧ some k_ ≠ (u9004_ : Value).ownBlock) u9003_ l0_7 from Kd.R_mono ho0_7 (fun k_ hk => ⟨(.inl (.inr (.inr (.inr (.inl hk))))), fun e_ => hp0_7_0_4 k_ hk (ho0_4.1 k_ e_.symm), fun e_ => hp0_7_0_8 k_ hk (ho0_8.1 k_ e_.symm)⟩))
 have HO0_8 := dk (show Kd.R (Kd.int .i64) 3 w w0.heap.size (fun k_ => ((P0_0_ k_ ∨ P0_4_ k_ ∨ P0_6_ k_ ∨ P0_7_ k_ ∨ P0_8_ k_) ∨ w.heap.size ≤ k_) ∧ some k_ ≠ (u9001_ : Value).ownBlock ∧ some k_ ≠ (u9003_ : Value).ownBlock) u9004_ l0_8 from Kd.R_mono ho0_8 (fun k_ hk => ⟨(.inl (.inr (.inr (.inr (.inr hk))))), fun e_ => hp0_8_0_4 k_ hk (ho0_4.1 k_ e_.symm), fun e_ => hp0_8_0_7 k_ hk (ho0_7.1 k_ e_.symm)⟩))
 have HK := dk (Kept.refl w (fun k_ => P0_0_ k_ ∨ P0_4_ k_ ∨ P0_6_ k_ ∨ P0_7_ k_ ∨ P0_8_ k_))
 have HW0 := dk hB.size
 have HB := dk hB
 clear hB
 have H : ((laws_markTeamS.f k l0_0 a1).bind fun bt463 => ((laws_markRules.f k a0_1 a0_2 a0_3 l0_4 a0_5 bt463.1).bind fun bt465 => ((laws_markGameS.f k l0_6 bt465.1).bind fun bt467 => ((laws_markIntS.f k l0_7 bt467.1).bind fun bt469 => ((laws_markIntS.f k l0_8 bt469.1).bind fun bt471 => (some (bt471.1, bt463.2, bt465.2, bt467.2, bt469.2, bt471.2))))))) = some (r1, r2, r3, r4, r5, r6) := h
 clear h
 replace H := Option.bind_eq_some_iff.mp H
 obtain ⟨⟨t463, t464⟩, A30, H⟩ := H
 replace H : ((laws_markRules.f k a0_1 a0_2 a0_3 l0_4 a0_5 t463).bind fun bt465 => ((laws_markGameS.f k l0_6 bt465.1).bind fun bt467 => ((laws_markIntS.f k l0_7 bt467.1).bind fun bt469 => ((laws_markIntS.f k l0_8 bt469.1).bind fun bt471 => (some (bt471.1, t464, bt465.2, bt467.2, bt469.2, bt471.2)))))) = some (r1, r2, r3, r4, r5, r6) := H
 have A3 := dk A30
 clear A30
 replace H := Option.bind_eq_some_iff.mp H
 obtain ⟨⟨t465, t466⟩, A40, H⟩ := H
 replace H : ((laws_markGameS.f k l0_6 t465).bind fun bt467 => ((laws_markIntS.f k l0_7 bt467.1).bind fun bt469 => ((laws_markIntS.f k l0_8 bt469.1).bind fun bt471 => (some (bt471.1, t464, t466, bt467.2, bt469.2, bt471.2))))) = some (r1, r2, r3, r4, r5, r6) := H
 have A4 := dk A40
 clear A40
 replace H := Option.bind_eq_some_iff.mp H
 obtain ⟨⟨t467, t468⟩, A50, H⟩ := H
 replace H : ((laws_markIntS.f k l0_7 t467).bind fun bt469 => ((laws_markIntS.f k l0_8 bt469.1).bind fun bt471 => (some (bt471.1, t464, t466, t468, bt469.2, bt471.2)))) = some (r1, r2, r3, r4, r5, r6) := H
 have A5 := dk A50
 clear A50
 replace H := Option.bind_eq_some_iff.mp H
 obtain ⟨⟨t469, t470⟩, A60, H⟩ := H
 replace H : ((laws_markIntS.f k l0_8 t469).bind fun bt471 => (some (bt471.1, t464, t466, t468, t470, bt471.2))) = some (r1, r2, r3, r4, r5, r6) := H
 have A6 := dk A60
 clear A60
 replace H := Option.bind_eq_some_iff.mp H
 obtain ⟨⟨t471, t472⟩, A70, H⟩ := H
 replace H : (some (t471, t464, t466, t468, t470, t472)) = some (r1, r2, r3, r4, r5, r6) := H
 have A7 := dk A70
 clear A70
 simp only [Option.some.injEq, Prod.mk.injEq] at H
 obtain ⟨rfl, rfl, rfl, rfl, rfl, rfl⟩ := H
 obtain ⟨Ao8, co8, eo8⟩ := Kd.R_slice HO0_0.out
 subst eo8
 obtain ⟨Ao9, co9, eo9⟩ := Kd.R_slice HO0_4.out
 subst eo9
 obtain ⟨Ao10, co10, eo10⟩ := Kd.R_slice HO0_6.out
 subst eo10
 obtain ⟨Ao11, co11, eo11⟩ := Kd.R_slice HO0_7.out
 subst eo11
 obtain ⟨Ao12, co12, eo12⟩ := Kd.R_slice HO0_8.out
 subst eo12
 go_enter Try.func18, Try.ntmps18
 go_wp2_with (first | ((with_reducible refine gate_dst (N := 2) rfl ?_); refine bx (N := 2) (cs := #[.slice Ao8 l0_0.length co8, .int .i64 a0_1, .int .i64 a0_2, .int .i64 a0_3, .slice Ao9 l0_4.length co9, .bool a0_5, .slice Ao10 l0_6.length co10, .slice Ao11 l0_7.length co11, .slice Ao12 l0_8.length co12]) (t := 36) ?_; intro gb462 hg w13 hbox hb; replace HO0_0 := kr HO0_0 hb; replace HO0_4 := kr HO0_4 hb; replace HO0_6 := kr HO0_6 hb; replace HO0_7 := kr HO0_7 hb; replace HO0_8 := kr HO0_8 hb; have BK462 := dk (hbox); have GW462 := dk (by rw [hg]; exact (by first | exact HK.out.1 | exact (show Kept w _ (fun k_ => P0_0_ k_ ∨ P0_4_ k_ ∨ P0_6_ k_ ∨ P0_7_ k_ ∨ P0_8_ k_) from by repeat (first | (with_reducible first | exact HK.out | apply Kept.alloc | apply Kept.drewN | apply Kept.drew) | exact HK.out)).1) : w.heap.size ≤ gb462); replace HK := dk (Kept.below (S := (fun k_ => P0_0_ k_ ∨ P0_4_ k_ ∨ P0_6_ k_ ∨ P0_7_ k_ ∨ P0_8_ k_)) (by repeat (first | (with_reducible first | exact HK.out | apply Kept.alloc | apply Kept.drewN | apply Kept.drew) | exact HK.out)) hb); have GE462 := gs hg HB; replace HB := hs_ HB hb; clear hb hbox hg; have ⟨z14_0, z14_1, z14_2, z14_3, z14_4, z14_5, z14_6, z14_7, z14_8, v14_0, v14_1, v14_2, v14_3, v14_4, v14_5, v14_6, v14_7, v14_8⟩ := rz9 BK462) | ((with_reducible refine gate_callee (f := 68) rfl ?_); refine gl (some 8) Try.func68 #[.slice Ao8 l0_0.length co8, .int .i64 a1] ?_; (with_reducible refine (laws_markTeamS.calls k (fun k_ => some k_ = (.slice Ao8 l0_0.length co8 : Value).ownBlock) (.slice Ao8 l0_0.length co8) l0_0 a1 t463 t464 w0 _ ?side1 ?side2 A3.out).mono ?_); (case side1 => exact bb HB); (case side2 => exact Kd.R_tight rfl HO0_0.out); rintro e w15 ⟨rfl, hy0, hb, hkp⟩; refine ⟨_, rfl, ?_⟩; replace HO0_4 := km hkp (ra HO0_4.out HO0_0) (fun k_ hk_ => hk_.2) (fun k_ hk_ => ai hk_.1.1 (ai hk_.1.2.1 hk_.1.2.2)); replace HO0_6 := km hkp (ra HO0_6.out HO0_0) (fun k_ hk_ => hk_.2) (fun k_ hk_ => hk_.1); replace HO0_7 := km hkp (ra HO0_7.out HO0_0) (fun k_ hk_ => hk_.2) (fun k_ hk_ => ai hk_.1.1 (ai hk_.1.2.1 hk_.1.2.2)); replace HO0_8 := km hkp (ra HO0_8.out HO0_0) (fun k_ hk_ => hk_.2) (fun k_ hk_ => ai hk_.1.1 (ai hk_.1.2.1 hk_.1.2.2)); replace BK462 := dk (blk_kept (bk BK462) hkp (fun hs_ => (fun e_ => (Kd.R_ne HO0_0.out BK462.out (by decide)) e_) hs_)); replace HK := dk (Kept.then_ (S := (fun k_ => P0_0_ k_ ∨ P0_4_ k_ ∨ P0_6_ k_ ∨ P0_7_ k_ ∨ P0_8_ k_)) (by repeat (first | (with_reducible first | exact HK.out | apply Kept.alloc | apply Kept.drewN | apply Kept.drew | refine Kept.setCell ?_ (.inr GW462.out) _) | exact HK.out)) hkp (fun k_ hs_ => (fun e_ => (HO0_0.out.1 k_ e_.symm)) hs_)); replace HO0_0 := dk (Kd.R_reok rfl hy0 (fun k_ e_ => HO0_0.out.1 k_ e_)); replace HB := dk (hb); (try clear hb hkp hy0); have ⟨z16_0, z16_1, z16_2, z16_3, z16_4, z16_5, z16_6, z16_7, z16_8, v16_0, v16_1, v16_2, v16_3, v16_4, v16_5, v16_6, v16_7, v16_8⟩ := rz9 BK462) | ((with_reducible refine gate_callee (f := 69) rfl ?_); refine gl (some 12) Try.func69 #[.agg #[.int .i64 a0_1, .int .i64 a0_2, .int .i64 a0_3, .slice Ao9 l0_4.length co9, .bool a0_5], .int .i64 t463] ?_; (with_reducible refine (laws_markRules.calls k a0_1 a0_2 a0_3 (fun k_ => some k_ = (.slice Ao9 l0_4.length co9 : Value).ownBlock) (.slice Ao9 l0_4.length co9) l0_4 a0_5 t463 t465 t466 w0 _ ?side1 ?side2 A4.out).mono ?_); (case side1 => exact bb HB); (case side2 => exact Kd.R_tight rfl HO0_4.out); rintro e w17 ⟨rfl, hy0, hb, hkp⟩; refine ⟨_, rfl, ?_⟩; replace HO0_0 := km hkp (ra HO0_0.out HO0_4) (fun k_ hk_ => hk_.2) (fun k_ hk_ => hk_.1); replace HO0_6 := km hkp (ra HO0_6.out HO0_4) (fun k_ hk_ => hk_.2) (fun k_ hk_ => hk_.1); replace HO0_7 := km hkp HO0_7.out (fun k_ hk_ => hk_.2.1) (fun k_ hk_ => ai hk_.1 (ai hk_.2.1 hk_.2.2)); replace HO0_8 := km hkp HO0_8.out (fun k_ hk_ => hk_.2.1) (fun k_ hk_ => ai hk_.1 (ai hk_.2.1 hk_.2.2)); replace BK462 := dk (blk_kept (bk BK462) hkp (fun hs_ => (fun e_ => (Kd.R_ne HO0_4.out BK462.out (by decide)) e_) hs_)); replace HK := dk (Kept.then_ (S := (fun k_ => P0_0_ k_ ∨ P0_4_ k_ ∨ P0_6_ k_ ∨ P0_7_ k_ ∨ P0_8_ k_)) (by repeat (first | (with_reducible first | exact HK.out | apply Kept.alloc | apply Kept.drewN | apply Kept.drew | refine Kept.setCell ?_ (.inr GW462.out) _) | exact HK.out)) hkp (fun k_ hs_ => (fun e_ => (HO0_4.out.1 k_ e_.symm).1) hs_)); replace HO0_4 := dk (Kd.R_reok rfl hy0 (fun k_ e_ => HO0_4.out.1 k_ e_)); replace HB := dk (hb); (try clear hb hkp hy0); have ⟨z18_0, z18_1, z18_2, z18_3, z18_4, z18_5, z18_6, z18_7, z18_8, v18_0, v18_1, v18_2, v18_3, v18_4, v18_5, v18_6, v18_7, v18_8⟩ := rz9 BK462) | ((with_reducible refine gate_callee (f := 70) rfl ?_); refine gl (some 16) Try.func70 #[.slice Ao10 l0_6.length co10, .int .i64 t465] ?_; (with_reducible refine (laws_markGameS.calls k (fun k_ => some k_ = (.slice Ao10 l0_6.length co10 : Value).ownBlock) (.slice Ao10 l0_6.length co10) l0_6 t465 t467 t468 w0 _ ?side1 ?side2 A5.out).mono ?_); (case side1 => exact bb HB); (case side2 => exact Kd.R_tight rfl HO0_6.out); rintro e w19 ⟨rfl, hy0, hb, hkp⟩; refine ⟨_, rfl, ?_⟩; replace HO0_0 := km hkp (ra HO0_0.out HO0_6) (fun k_ hk_ => hk_.2) (fun k_ hk_ => hk_.1); replace HO0_4 := km hkp (ra HO0_4.out HO0_6) (fun k_ hk_ => hk_.2) (fun k_ hk_ => ai hk_.1.1 (ai hk_.1.2.1 hk_.1.2.2)); replace HO0_7 := km hkp (ra HO0_7.out HO0_6) (fun k_ hk_ => hk_.2) (fun k_ hk_ => ai hk_.1.1 (ai hk_.1.2.1 hk_.1.2.2)); replace HO0_8 := km hkp (ra HO0_8.out HO0_6) (fun k_ hk_ => hk_.2) (fun k_ hk_ => ai hk_.1.1 (ai hk_.1.2.1 hk_.1.2.2)); replace BK462 := dk (blk_kept (bk BK462) hkp (fun hs_ => (fun e_ => (Kd.R_ne HO0_6.out BK462.out (by decide)) e_) hs_)); replace HK := dk (Kept.then_ (S := (fun k_ => P0_0_ k_ ∨ P0_4_ k_ ∨ P0_6_ k_ ∨ P0_7_ k_ ∨ P0_8_ k_)) (by repeat (first | (with_reducible first | exact HK.out | apply Kept.alloc | apply Kept.drewN | apply Kept.drew | refine Kept.setCell ?_ (.inr GW462.out) _) | exact HK.out)) hkp (fun k_ hs_ => (fun e_ => (HO0_6.out.1 k_ e_.symm)) hs_)); replace HO0_6 := dk (Kd.R_reok rfl hy0 (fun k_ e_ => HO0_6.out.1 k_ e_)); replace HB := dk (hb); (try clear hb hkp hy0); have ⟨z20_0, z20_1, z20_2, z20_3, z20_4, z20_5, z20_6, z20_7, z20_8, v20_0, v20_1, v20_2, v20_3, v20_4, v20_5, v20_6, v20_7, v20_8⟩ := rz9 BK462) | ((with_reducible refine gate_callee (f := 29) rfl ?_); refine gl (some 20) Try.func29 #[.slice Ao11 l0_7.length co11, .int .i64 t467] ?_; (with_reducible refine (laws_markIntS.calls k (fun k_ => some k_ = (.slice Ao11 l0_7.length co11 : Value).ownBlock) (.slice Ao11 l0_7.length co11) l0_7 t467 t469 t470 w0 _ ?side1 ?side2 A6.out).mono ?_); (case side1 => exact bb HB); (case side2 => exact Kd.R_tight rfl HO0_7.out); rintro e w21 ⟨rfl, hy0, hb, hkp⟩; refine ⟨_, rfl, ?_⟩; replace HO0_0 := km hkp (ra HO0_0.out HO0_7) (fun k_ hk_ => hk_.2) (fun k_ hk_ => hk_.1); replace HO0_4 := km hkp HO0_4.out (fun k_ hk_ => hk_.2.1) (fun k_ hk_ => ai hk_.1 (ai hk_.2.1 hk_.2.2)); replace HO0_6 := km hkp (ra HO0_6.out HO0_7) (fun k_ hk_ => hk_.2) (fun k_ hk_ => hk_.1); replace HO0_8 := km hkp HO0_8.out (fun k_ hk_ => hk_.2.2) (fun k_ hk_ => ai hk_.1 (ai hk_.2.1 hk_.2.2)); replace BK462 := dk (blk_kept (bk BK462) hkp (fun hs_ => (fun e_ => (Kd.R_ne HO0_7.out BK462.out (by decide)) e_) hs_)); replace HK := dk (Kept.then_ (S := (fun k_ => P0_0_ k_ ∨ P0_4_ k_ ∨ P0_6_ k_ ∨ P0_7_ k_ ∨ P0_8_ k_)) (by repeat (first | (with_reducible first | exact HK.out | apply Kept.alloc | apply Kept.drewN | apply Kept.drew | refine Kept.setCell ?_ (.inr GW462.out) _) | exact HK.out)) hkp (fun k_ hs_ => (fun e_ => (HO0_7.out.1 k_ e_.symm).1) hs_)); replace HO0_7 := dk (Kd.R_reok rfl hy0 (fun k_ e_ => HO0_7.out.1 k_ e_)); replace HB := dk (hb); (try clear hb hkp hy0); have ⟨z22_0, z22_1, z22_2, z22_3, z22_4, z22_5, z22_6, z22_7, z22_8, v22_0, v22_1, v22_2, v22_3, v22_4, v22_5, v22_6, v22_7, v22_8⟩ := rz9 BK462) | ((with_reducible refine gate_callee (f := 29) rfl ?_); refine gl (some 24) Try.func29 #[.slice Ao12 l0_8.length co12, .int .i64 t469] ?_; (with_reducible refine (laws_markIntS.calls k (fun k_ => some k_ = (.slice Ao12 l0_8.length co12 : Value).ownBlock) (.slice Ao12 l0_8.length co12) l0_8 t469 t471 t472 w0 _ ?side1 ?side2 A7.out).mono ?_); (case side1 => exact bb HB); (case side2 => exact Kd.R_tight rfl HO0_8.out); rintro e w23 ⟨rfl, hy0, hb, hkp⟩; refine ⟨_, rfl, ?_⟩; replace HO0_0 := km hkp (ra HO0_0.out HO0_8) (fun k_ hk_ => hk_.2) (fun k_ hk_ => hk_.1); replace HO0_4 := km hkp HO0_4.out (fun k_ hk_ => hk_.2.2) (fun k_ hk_ => ai hk_.1 (ai hk_.2.1 hk_.2.2)); replace HO0_6 := km hkp (ra HO0_6.out HO0_8) (fun k_ hk_ => hk_.2) (fun k_ hk_ => hk_.1); replace HO0_7 := km hkp HO0_7.out (fun k_ hk_ => hk_.2.2) (fun k_ hk_ => ai hk_.1 (ai hk_.2.1 hk_.2.2)); replace BK462 := dk (blk_kept (bk BK462) hkp (fun hs_ => (fun e_ => (Kd.R_ne HO0_8.out BK462.out (by decide)) e_) hs_)); replace HK := dk (Kept.then_ (S := (fun k_ => P0_0_ k_ ∨ P0_4_ k_ ∨ P0_6_ k_ ∨ P0_7_ k_ ∨ P0_8_ k_)) (by repeat (first | (with_reducible first | exact HK.out | apply Kept.alloc | apply Kept.drewN | apply Kept.drew | refine Kept.setCell ?_ (.inr GW462.out) _) | exact HK.out)) hkp (fun k_ hs_ => (fun e_ => (HO0_8.out.1 k_ e_.symm).1) hs_)); replace HO0_8 := dk (Kd.R_reok rfl hy0 (fun k_ e_ => HO0_8.out.1 k_ e_)); replace HB := dk (hb); (try clear hb hkp hy0)))
 go_ret
 exact ⟨ee, rr HO0_0, ro HO0_4 (fun _ hk => hk.1), rr HO0_6, ro HO0_7 (fun _ hk => hk.1), ro HO0_8 (fun _ hk => hk.1), bb HB, by repeat (first | (with_reducible first | exact HK.out | apply Kept.alloc | apply Kept.drewN | apply Kept.drew | refine Kept.setCell ?_ (.inr GW462.out) _) | exact HK.out)⟩
def laws_heldIntS.l0 : Nat → List Int → Int → Int → Option (Int)
 | 0, _, _, _ => none
 | k + 1, x0, x1, x5 => if x5 < (x0.length : Int) then (if 0 ≤ x5 then (if (rd x0 x5) = x1 then (laws_heldIntS.l0 k x0 (wrap64 (x1 + 1)) (wrap64 (x5 + 1))) else (some (-1))) else (none)) else (some x1)
def laws_heldIntS.f (k : Nat) (l0 : List Int) (a1 : Int) : Option (Int) := laws_heldIntS.l0 k l0 a1 0
theorem laws_heldIntS.calls (k : Nat) (A0 : Option Addr) (c0 : Nat) (l0 : List Int) (a1 : Int) (r : Int) (w : World) (hr0 : Kd.C (Kd.int .i64) w A0 l0.length l0) (hc0 : l0.length ≤ c0) (h : laws_heldIntS.f k l0 a1 = some r) :
  Calls Try.prog 30 #[.slice A0 l0.length c0, .int .i64 a1] w fun e w' => e = .returned (.int .i64 r) ∧ Drawn0 w w' := by
 have HR0 := dk hr0
 have HC0 := dk hc0
 clear hr0 hc0
 have H : (laws_heldIntS.l0 k l0 a1 0) = some r := h
 clear h
 have H' := dk H
 clear H
 go_enter Try.func30, Try.ntmps30
 go_wp2
 go_loopg [1, 5] k (fun kq v1 v5 w' => ∃ (x1_1 : Int) (x5_1 : Int), v1 = .int .i64 x1_1 ∧ v5 = .int .i64 x5_1 ∧ Aside0 (laws_heldIntS.l0 kq l0 x1_1 x5_1 = some r) ∧ Aside0 (kq ≤ k) ∧ Drawn0 w w')
 case atStart => exact ⟨(a1), (0), e2_, e2_, H', ⟨Nat.le_refl _⟩, by repeat (first | exact Drawn0.refl _ | apply Drawn0.step)⟩
 case round =>
  clear H'
  (try clear p2)
  obtain ⟨x1_1, x5_1, rfl, rfl, HA, HK1, ⟨m1, rfl⟩⟩ := hrel
  cases gk with
  | zero => exact absurd HA.out (by simp [laws_heldIntS.l0])
  | succ k1 =>
   have H := HA.out
   clear HA
   simp only [laws_heldIntS.l0] at H
   by_cases c3 : x5_1 < (l0.length : Int)
   ·rw [if_pos c3] at H
    have c3b0 : decide (x5_1 < (l0.length : Int)) = true := decide_eq_true c3
    clear c3
    by_cases c4 : 0 ≤ x5_1
    ·rw [if_pos c4] at H
     have c4b0 : decide (0 ≤ x5_1) = true := decide_eq_true c4
     clear c4
     by_cases c5 : (rd l0 x5_1) = x1_1
     ·rw [if_pos c5] at H
      have c5b0 : ((rd l0 x5_1) == x1_1) = true := beq_iff_eq.mpr c5
      have c5b1 : ((rd l0 x5_1) != x1_1) = false := bne_eq_false_iff_eq.mpr c5
      clear c5
      have H' := dk H
      clear H
      have p476 : 0 ≤ (x5_1 : Int) := oa
      have q476 : x5_1 < (l0.length : Int) := oa
      obtain ⟨ad476, e476, hx476_0⟩ := Kd.at_int HR0.out x5_1 p476 q476
      cases e476
      replace p476 := eq_true p476
      replace q476 := eq_true q476
      go_wp2
      go_roundg k1
      case measure => have := HK1.out; omega
      case rel => exact ⟨(wrap64 (x1_1 + 1)), (wrap64 (x5_1 + 1)), e2_, e2_, H', ⟨by have := HK1.out; omega⟩, by repeat (first | exact Drawn0.refl _ | apply Drawn0.step)⟩
     ·rw [if_neg c5] at H
      have c5b0 : ((rd l0 x5_1) == x1_1) = false := beq_eq_false_iff_ne.mpr c5
      have c5b1 : ((rd l0 x5_1) != x1_1) = true := bne_iff_ne.mpr c5
      obtain rfl := Option.some.inj H
      have p476 : 0 ≤ (x5_1 : Int) := oa
      have q476 : x5_1 < (l0.length : Int) := oa
      obtain ⟨ad476, e476, hx476_0⟩ := Kd.at_int HR0.out x5_1 p476 q476
      cases e476
      replace p476 := eq_true p476
      replace q476 := eq_true q476
      go_wp2
      go_ret
      exact ⟨e2_, by repeat (first | exact Drawn0.refl _ | apply Drawn0.step)⟩
    ·rw [if_neg c4] at H
     exact absurd H (by simp)
   ·rw [if_neg c3] at H
    have c3b0 : decide (x5_1 < (l0.length : Int)) = false := decide_eq_false c3
    clear c3
    obtain rfl := Option.some.inj H
    go_wp2
    go_ret
    exact ⟨e2_, by repeat (first | exact Drawn0.refl _ | apply Drawn0.step)⟩
def spec_l01In.f (a0 : Int) (a1 : Int) (a2 : Int) : Option (Bool) := if a0 ≥ a1 then (some (decide (a0 ≤ a2))) else (some false)
theorem spec_l01In.calls (a0 : Int) (a1 : Int) (a2 : Int) (r : Bool) (w : World) (h : spec_l01In.f a0 a1 a2 = some r) :
  Calls Try.prog 76 #[.int .i64 a0, .int .i64 a1, .int .i64 a2] w fun e w' => e = .returned (.bool r) ∧ Drawn0 w w' := by
 have H : (if a0 ≥ a1 then (some (decide (a0 ≤ a2))) else (some false)) = some r := h
 clear h
 by_cases c4 : a0 ≥ a1
 ·rw [if_pos c4] at H
  have c4b0 : decide (a1 ≤ a0) = true := decide_eq_true c4
  clear c4
  obtain rfl := Option.some.inj H
  go_enter Try.func76, Try.ntmps76
  go_wp2
  go_ret
  exact ⟨e2_, by repeat (first | exact Drawn0.refl _ | apply Drawn0.step)⟩
 ·rw [if_neg c4] at H
  have c4b0 : decide (a1 ≤ a0) = false := decide_eq_false c4
  clear c4
  obtain rfl := Option.some.inj H
  go_enter Try.func76, Try.ntmps76
  go_wp2
  go_ret
  exact ⟨e2_, by repeat (first | exact Drawn0.refl _ | apply Drawn0.step)⟩
def spec_IsName.l0 : Nat → ByteArray → Int → Option (Bool)
 | 0, _, _ => none
 | k + 1, x0, x3 => if x3 < (x0.size : Int) then (if 0 ≤ x3 then (if (bt x0 x3) ≥ 97 then (if ((bt x0 x3) ≤ 122) then (spec_IsName.l0 k x0 (wrap64 (x3 + 1))) else (if x3 = 0 then (some false) else (if (bt x0 x3) < 48 then (some false) else (if (bt x0 x3) > 57 then (some false) else (spec_IsName.l0 k x0 (wrap64 (x3 + 1))))))) else (if x3 = 0 then (some false) else (if (bt x0 x3) < 48 then (some false) else (if (bt x0 x3) > 57 then (some false) else (spec_IsName.l0 k x0 (wrap64 (x3 + 1))))))) else (none)) else ((spec_l01In.f (x0.size : Int) 1 8).bind fun t112 => (some t112))
def spec_IsName.f (k : Nat) (a0 : ByteArray) : Option (Bool) := spec_IsName.l0 k a0 0
theorem spec_IsName.calls (k : Nat) (a0 : ByteArray) (r : Bool) (w : World) (h : spec_IsName.f k a0 = some r) :
  Calls Try.prog 183 #[.string a0] w fun e w' => e = .returned (.bool r) ∧ Drawn0 w w' := by
 have H : (spec_IsName.l0 k a0 0) = some r := h
 clear h
 have H' := dk H
 clear H
 go_enter Try.func183, Try.ntmps183
 go_wp2
 go_loopg [3] k (fun kq v3 w' => ∃ (x3_1 : Int), v3 = .int .i64 x3_1 ∧ Aside0 (spec_IsName.l0 kq a0 x3_1 = some r) ∧ Aside0 (kq ≤ k) ∧ Drawn0 w w')
 case atStart => exact ⟨(0), e2_, H', ⟨Nat.le_refl _⟩, by repeat (first | exact Drawn0.refl _ | apply Drawn0.step)⟩
 case round =>
  clear H'
  (try clear c1)
  obtain ⟨x3_1, rfl, HA, HK1, ⟨m1, rfl⟩⟩ := hrel
  cases gk with
  | zero => exact absurd HA.out (by simp [spec_IsName.l0])
  | succ k1 =>
   have H := HA.out
   clear HA
   simp only [spec_IsName.l0] at H
   by_cases c2 : x3_1 < (a0.size : Int)
   ·rw [if_pos c2] at H
    have c2b0 : decide (x3_1 < (a0.size : Int)) = true := decide_eq_true c2
    clear c2
    by_cases c3 : 0 ≤ x3_1
    ·rw [if_pos c3] at H
     have c3b0 : decide (0 ≤ x3_1) = true := decide_eq_true c3
     clear c3
     by_cases c5 : (bt a0 x3_1) ≥ 97
     ·rw [if_pos c5] at H
      have c5b0 : decide (97 ≤ (bt a0 x3_1)) = true := decide_eq_true c5
      clear c5
      by_cases c7 : ((bt a0 x3_1) ≤ 122)
      ·rw [if_pos c7] at H
       have c7b0 : decide ((bt a0 x3_1) ≤ 122) = true := decide_eq_true c7
       clear c7
       have H' := dk H
       clear H
       have p4 : 0 ≤ (x3_1 : Int) := oa
       have q4 : x3_1 < (a0.size : Int) := oa
       have hx4 := bt_at a0 x3_1
       replace p4 := eq_true p4
       replace q4 := eq_true q4
       have p6 : 0 ≤ (x3_1 : Int) := oa
       have q6 : x3_1 < (a0.size : Int) := oa
       have hx6 := bt_at a0 x3_1
       replace p6 := eq_true p6
       replace q6 := eq_true q6
       go_wp2
       go_roundg k1
       case measure => have := HK1.out; omega
       case rel => exact ⟨(wrap64 (x3_1 + 1)), e2_, H', ⟨by have := HK1.out; omega⟩, by repeat (first | exact Drawn0.refl _ | apply Drawn0.step)⟩
      ·rw [if_neg c7] at H
       have c7b0 : decide ((bt a0 x3_1) ≤ 122) = false := decide_eq_false c7
       clear c7
       by_cases c8 : x3_1 = 0
       ·rw [if_pos c8] at H
        have c8b0 : (x3_1 == 0) = true := beq_iff_eq.mpr c8
        have c8b1 : (x3_1 != 0) = false := bne_eq_false_iff_eq.mpr c8
        clear c8
        obtain rfl := Option.some.inj H
        have p4 : 0 ≤ (x3_1 : Int) := oa
        have q4 : x3_1 < (a0.size : Int) := oa
        have hx4 := bt_at a0 x3_1
        replace p4 := eq_true p4
        replace q4 := eq_true q4
        have p6 : 0 ≤ (x3_1 : Int) := oa
        have q6 : x3_1 < (a0.size : Int) := oa
        have hx6 := bt_at a0 x3_1
        replace p6 := eq_true p6
        replace q6 := eq_true q6
        go_wp2
        go_ret
        exact ⟨e2_, by repeat (first | exact Drawn0.refl _ | apply Drawn0.step)⟩
       ·rw [if_neg c8] at H
        have c8b0 : (x3_1 == 0) = false := beq_eq_false_iff_ne.mpr c8
        have c8b1 : (x3_1 != 0) = true := bne_iff_ne.mpr c8
        by_cases c10 : (bt a0 x3_1) < 48
        ·rw [if_pos c10] at H
         have c10b0 : decide ((bt a0 x3_1) < 48) = true := decide_eq_true c10
         clear c10
         obtain rfl := Option.some.inj H
         have p4 : 0 ≤ (x3_1 : Int) := oa
         have q4 : x3_1 < (a0.size : Int) := oa
         have hx4 := bt_at a0 x3_1
         replace p4 := eq_true p4
         replace q4 := eq_true q4
         have p6 : 0 ≤ (x3_1 : Int) := oa
         have q6 : x3_1 < (a0.size : Int) := oa
         have hx6 := bt_at a0 x3_1
         replace p6 := eq_true p6
         replace q6 := eq_true q6
         have p9 : 0 ≤ (x3_1 : Int) := oa
         have q9 : x3_1 < (a0.size : Int) := oa
         have hx9 := bt_at a0 x3_1
         replace p9 := eq_true p9
         replace q9 := eq_true q9
         go_wp2
         go_ret
         exact ⟨e2_, by repeat (first | exact Drawn0.refl _ | apply Drawn0.step)⟩
        ·rw [if_neg c10] at H
         have c10b0 : decide ((bt a0 x3_1) < 48) = false := decide_eq_false c10
         clear c10
         by_cases c12 : (bt a0 x3_1) > 57
         ·rw [if_pos c12] at H
          have c12b0 : decide (57 < (bt a0 x3_1)) = true := decide_eq_true c12
          clear c12
          obtain rfl := Option.some.inj H
          have p4 : 0 ≤ (x3_1 : Int) := oa
          have q4 : x3_1 < (a0.size : Int) := oa
          have hx4 := bt_at a0 x3_1
          replace p4 := eq_true p4
          replace q4 := eq_true q4
          have p6 : 0 ≤ (x3_1 : Int) := oa
          have q6 : x3_1 < (a0.size : Int) := oa
          have hx6 := bt_at a0 x3_1
          replace p6 := eq_true p6
          replace q6 := eq_true q6
          have p9 : 0 ≤ (x3_1 : Int) := oa
          have q9 : x3_1 < (a0.size : Int) := oa
          have hx9 := bt_at a0 x3_1
          replace p9 := eq_true p9
          replace q9 := eq_true q9
          have p11 : 0 ≤ (x3_1 : Int) := oa
          have q11 : x3_1 < (a0.size : Int) := oa
          have hx11 := bt_at a0 x3_1
          replace p11 := eq_true p11
          replace q11 := eq_true q11
          go_wp2
          go_ret
          exact ⟨e2_, by repeat (first | exact Drawn0.refl _ | apply Drawn0.step)⟩
         ·rw [if_neg c12] at H
          have c12b0 : decide (57 < (bt a0 x3_1)) = false := decide_eq_false c12
          clear c12
          have H' := dk H
          clear H
          have p4 : 0 ≤ (x3_1 : Int) := oa
          have q4 : x3_1 < (a0.size : Int) := oa
          have hx4 := bt_at a0 x3_1
          replace p4 := eq_true p4
          replace q4 := eq_true q4
          have p6 : 0 ≤ (x3_1 : Int) := oa
          have q6 : x3_1 < (a0.size : Int) := oa
          have hx6 := bt_at a0 x3_1
          replace p6 := eq_true p6
          replace q6 := eq_true q6
          have p9 : 0 ≤ (x3_1 : Int) := oa
          have q9 : x3_1 < (a0.size : Int) := oa
          have hx9 := bt_at a0 x3_1
          replace p9 := eq_true p9
          replace q9 := eq_true q9
          have p11 : 0 ≤ (x3_1 : Int) := oa
          have q11 : x3_1 < (a0.size : Int) := oa
          have hx11 := bt_at a0 x3_1
          replace p11 := eq_true p11
          replace q11 := eq_true q11
          go_wp2
          go_roundg k1
          case measure => have := HK1.out; omega
          case rel => exact ⟨(wrap64 (x3_1 + 1)), e2_, H', ⟨by have := HK1.out; omega⟩, by repeat (first | exact Drawn0.refl _ | apply Drawn0.step)⟩
     ·rw [if_neg c5] at H
      have c5b0 : decide (97 ≤ (bt a0 x3_1)) = false := decide_eq_false c5
      clear c5
      by_cases c13 : x3_1 = 0
      ·rw [if_pos c13] at H
       have c13b0 : (x3_1 == 0) = true := beq_iff_eq.mpr c13
       have c13b1 : (x3_1 != 0) = false := bne_eq_false_iff_eq.mpr c13
       clear c13
       obtain rfl := Option.some.inj H
       have p4 : 0 ≤ (x3_1 : Int) := oa
       have q4 : x3_1 < (a0.size : Int) := oa
       have hx4 := bt_at a0 x3_1
       replace p4 := eq_true p4
       replace q4 := eq_true q4
       go_wp2
       go_ret
       exact ⟨e2_, by repeat (first | exact Drawn0.refl _ | apply Drawn0.step)⟩
      ·rw [if_neg c13] at H
       have c13b0 : (x3_1 == 0) = false := beq_eq_false_iff_ne.mpr c13
       have c13b1 : (x3_1 != 0) = true := bne_iff_ne.mpr c13
       by_cases c15 : (bt a0 x3_1) < 48
       ·rw [if_pos c15] at H
        have c15b0 : decide ((bt a0 x3_1) < 48) = true := decide_eq_true c15
        clear c15
        obtain rfl := Option.some.inj H
        have p4 : 0 ≤ (x3_1 : Int) := oa
        have q4 : x3_1 < (a0.size : Int) := oa
        have hx4 := bt_at a0 x3_1
        replace p4 := eq_true p4
        replace q4 := eq_true q4
        have p14 : 0 ≤ (x3_1 : Int) := oa
        have q14 : x3_1 < (a0.size : Int) := oa
        have hx14 := bt_at a0 x3_1
        replace p14 := eq_true p14
        replace q14 := eq_true q14
        go_wp2
        go_ret
        exact ⟨e2_, by repeat (first | exact Drawn0.refl _ | apply Drawn0.step)⟩
       ·rw [if_neg c15] at H
        have c15b0 : decide ((bt a0 x3_1) < 48) = false := decide_eq_false c15
        clear c15
        by_cases c17 : (bt a0 x3_1) > 57
        ·rw [if_pos c17] at H
         have c17b0 : decide (57 < (bt a0 x3_1)) = true := decide_eq_true c17
         clear c17
         obtain rfl := Option.some.inj H
         have p4 : 0 ≤ (x3_1 : Int) := oa
         have q4 : x3_1 < (a0.size : Int) := oa
         have hx4 := bt_at a0 x3_1
         replace p4 := eq_true p4
         replace q4 := eq_true q4
         have p14 : 0 ≤ (x3_1 : Int) := oa
         have q14 : x3_1 < (a0.size : Int) := oa
         have hx14 := bt_at a0 x3_1
         replace p14 := eq_true p14
         replace q14 := eq_true q14
         have p16 : 0 ≤ (x3_1 : Int) := oa
         have q16 : x3_1 < (a0.size : Int) := oa
         have hx16 := bt_at a0 x3_1
         replace p16 := eq_true p16
         replace q16 := eq_true q16
         go_wp2
         go_ret
         exact ⟨e2_, by repeat (first | exact Drawn0.refl _ | apply Drawn0.step)⟩
        ·rw [if_neg c17] at H
         have c17b0 : decide (57 < (bt a0 x3_1)) = false := decide_eq_false c17
         clear c17
         have H' := dk H
         clear H
         have p4 : 0 ≤ (x3_1 : Int) := oa
         have q4 : x3_1 < (a0.size : Int) := oa
         have hx4 := bt_at a0 x3_1
         replace p4 := eq_true p4
         replace q4 := eq_true q4
         have p14 : 0 ≤ (x3_1 : Int) := oa
         have q14 : x3_1 < (a0.size : Int) := oa
         have hx14 := bt_at a0 x3_1
         replace p14 := eq_true p14
         replace q14 := eq_true q14
         have p16 : 0 ≤ (x3_1 : Int) := oa
         have q16 : x3_1 < (a0.size : Int) := oa
         have hx16 := bt_at a0 x3_1
         replace p16 := eq_true p16
         replace q16 := eq_true q16
         go_wp2
         go_roundg k1
         case measure => have := HK1.out; omega
         case rel => exact ⟨(wrap64 (x3_1 + 1)), e2_, H', ⟨by have := HK1.out; omega⟩, by repeat (first | exact Drawn0.refl _ | apply Drawn0.step)⟩
    ·rw [if_neg c3] at H
     exact absurd H (by simp)
   ·rw [if_neg c2] at H
    have c2b0 : decide (x3_1 < (a0.size : Int)) = false := decide_eq_false c2
    clear c2
    replace H := Option.bind_eq_some_iff.mp H
    obtain ⟨t112, A180, H⟩ := H
    try dsimp only at H
    have A18 := dk A180
    clear A180
    obtain rfl := Option.some.inj H
    go_wp2_with (first | ((with_reducible refine gate_callee (f := 76) rfl ?_); refine gl (some 41) Try.func76 #[.int .i64 (a0.size : Int), .int .i64 1, .int .i64 8] ?_; (with_reducible refine (spec_l01In.calls (a0.size : Int) 1 8 t112 _ A18.out).mono ?_); rintro e w' ⟨rfl, ⟨nd, rfl⟩⟩; refine ⟨_, rfl, ?_⟩))
    go_ret
    exact ⟨e2_, by repeat (first | exact Drawn0.refl _ | apply Drawn0.step)⟩
def spec_TeamOk.f (k : Nat) (a0_0 : ByteArray) (a0_1 : Int) (a0_2 : Int) : Option (Bool) := (spec_IsName.f k a0_0).bind fun t114 => (if t114 = true then ((spec_l01In.f a0_1 0 5).bind fun t115 => (if t115 = true then ((spec_l01In.f a0_2 1 8).bind fun t116 => (some t116)) else (some false))) else (some false))
theorem spec_TeamOk.calls (k : Nat) (a0_0 : ByteArray) (a0_1 : Int) (a0_2 : Int) (r : Bool) (w : World) (h : spec_TeamOk.f k a0_0 a0_1 a0_2 = some r) :
  Calls Try.prog 157 #[.agg #[.string a0_0, .int .i64 a0_1, .int .i64 a0_2]] w fun e w' => e = .returned (.bool r) ∧ Below w.heap.size w w' := by
 have hu139 := Try.underlying139
 have HB := dk (Below.refl w.heap.size w)
 have H : ((spec_IsName.f k a0_0).bind fun t114 => (if t114 = true then ((spec_l01In.f a0_1 0 5).bind fun t115 => (if t115 = true then ((spec_l01In.f a0_2 1 8).bind fun t116 => (some t116)) else (some false))) else (some false))) = some r := h
 clear h
 replace H := Option.bind_eq_some_iff.mp H
 obtain ⟨t114, A20, H⟩ := H
 try dsimp only at H
 have A2 := dk A20
 clear A20
 by_cases c3 : t114 = true
 ·subst c3
  rw [if_pos rfl] at H
  replace H := Option.bind_eq_some_iff.mp H
  obtain ⟨t115, A40, H⟩ := H
  try dsimp only at H
  have A4 := dk A40
  clear A40
  by_cases c5 : t115 = true
  ·subst c5
   rw [if_pos rfl] at H
   replace H := Option.bind_eq_some_iff.mp H
   obtain ⟨t116, A60, H⟩ := H
   try dsimp only at H
   have A6 := dk A60
   clear A60
   obtain rfl := Option.some.inj H
   go_enter Try.func157, Try.ntmps157
   go_wp2_with (first | ((with_reducible refine gate_dst (N := 1) rfl ?_); refine bx (N := 1) (cs := #[.string a0_0, .int .i64 a0_1, .int .i64 a0_2]) (t := 139) ?_; intro gb113 hg w7 hbox hb; have BK113 := dk (hbox); have GW113 := gs hg HB; have GE113 := gs hg HB; replace HB := hs_ HB hb; clear hb hbox hg; have ⟨z8_0, z8_1, z8_2, v8_0, v8_1, v8_2⟩ := rz3 BK113) | ((with_reducible refine gate_callee (f := 183) rfl ?_); refine gl (some 5) Try.func183 #[.string a0_0] ?_; (with_reducible refine (spec_IsName.calls k a0_0 true _ A2.out).mono ?_); rintro e w' ⟨rfl, ⟨nd, rfl⟩⟩; refine ⟨_, rfl, ?_⟩) | (go_at_call 76; (with_reducible refine (spec_l01In.calls a0_1 0 5 true _ A4.out).mono ?_); rintro e w' ⟨rfl, ⟨nd, rfl⟩⟩) | (go_at_call 76; (with_reducible refine (spec_l01In.calls a0_2 1 8 t116 _ A6.out).mono ?_); rintro e w' ⟨rfl, ⟨nd, rfl⟩⟩))
   go_ret
   exact ⟨ee, bb HB⟩
  ·replace c5 := Bool.eq_false_iff.mpr c5
   subst c5
   rw [if_neg (show ¬ (false = true) by decide)] at H
   obtain rfl := Option.some.inj H
   go_enter Try.func157, Try.ntmps157
   go_wp2_with (first | ((with_reducible refine gate_dst (N := 1) rfl ?_); refine bx (N := 1) (cs := #[.string a0_0, .int .i64 a0_1, .int .i64 a0_2]) (t := 139) ?_; intro gb113 hg w9 hbox hb; have BK113 := dk (hbox); have GW113 := gs hg HB; have GE113 := gs hg HB; replace HB := hs_ HB hb; clear hb hbox hg; have ⟨z10_0, z10_1, z10_2, v10_0, v10_1, v10_2⟩ := rz3 BK113) | ((with_reducible refine gate_callee (f := 183) rfl ?_); refine gl (some 5) Try.func183 #[.string a0_0] ?_; (with_reducible refine (spec_IsName.calls k a0_0 true _ A2.out).mono ?_); rintro e w' ⟨rfl, ⟨nd, rfl⟩⟩; refine ⟨_, rfl, ?_⟩) | (go_at_call 76; (with_reducible refine (spec_l01In.calls a0_1 0 5 false _ A4.out).mono ?_); rintro e w' ⟨rfl, ⟨nd, rfl⟩⟩))
   go_ret
   exact ⟨ee, bb HB⟩
 ·replace c3 := Bool.eq_false_iff.mpr c3
  subst c3
  rw [if_neg (show ¬ (false = true) by decide)] at H
  obtain rfl := Option.some.inj H
  go_enter Try.func157, Try.ntmps157
  go_wp2_with (first | ((with_reducible refine gate_dst (N := 1) rfl ?_); refine bx (N := 1) (cs := #[.string a0_0, .int .i64 a0_1, .int .i64 a0_2]) (t := 139) ?_; intro gb113 hg w11 hbox hb; have BK113 := dk (hbox); have GW113 := gs hg HB; have GE113 := gs hg HB; replace HB := hs_ HB hb; clear hb hbox hg; have ⟨z12_0, z12_1, z12_2, v12_0, v12_1, v12_2⟩ := rz3 BK113) | ((with_reducible refine gate_callee (f := 183) rfl ?_); refine gl (some 5) Try.func183 #[.string a0_0] ?_; (with_reducible refine (spec_IsName.calls k a0_0 false _ A2.out).mono ?_); rintro e w' ⟨rfl, ⟨nd, rfl⟩⟩; refine ⟨_, rfl, ?_⟩))
  go_ret
  exact ⟨ee, bb HB⟩
end Go.Proofs.Ythfefanapneocaa.Q
section
namespace Go.Proofs.Ythfefanapneocaa.Q
open Go.RowKit Go.Proofs.YthfefanapneocaaW.PrintWords Go.Proofs.YthfefanapneocaaW.PrintLast Go.Proofs.YthfefanapneocaaW.PrintMore
attribute [local go_sem] max2_int min2_int max_two min_two max_three min_three max_four min_four
set_option linter.unusedVariables false
set_option linter.unusedSimpArgs false
set_option maxRecDepth 100000
set_option maxHeartbeats 8000000
mutual
def spec_FieldOk.l0 : Nat → List (S139) → List (S139) → Int → Int → Option (Bool)
 | 0, _, _, _, _ => none
 | k + 1, x0, x11, x12, x13 => if x13 < x12 then (if 0 ≤ x13 then (if x13 < (x11.length : Int) then ((spec_TeamOk.f k ((rd_T139 x11 x13).f0) ((rd_T139 x11 x13).f1) ((rd_T139 x11 x13).f2)).bind fun t120 => (if t120 = true then (if x13 ≤ (x0.length : Int) then ((some (x0.take (x13 : Int).toNat : List (S139))).bind fun y121 => (spec_FieldOk.l1 k x0 x11 x12 x13 y121 (y121.length : Int) 0 ((rd_T139 x11 x13).f0) ((rd_T139 x11 x13).f1) ((rd_T139 x11 x13).f2))) else (none)) else (some false))) else (none)) else (none)) else (some true)
def spec_FieldOk.l1 : Nat → List (S139) → List (S139) → Int → Int → List (S139) → Int → Int → ByteArray → Int → Int → Option (Bool)
 | 0, _, _, _, _, _, _, _, _, _, _ => none
 | k + 1, x0, x11, x12, x13, x23, x24, x25, x120000, x120001, x120002 => if x25 < x24 then (if 0 ≤ x25 then (if x25 < (x23.length : Int) then (if ((rd_T139 x23 x25).f0).toList = x120000.toList then (some false) else (if ((rd_T139 x23 x25).f2) = x120002 then (some false) else (spec_FieldOk.l1 k x0 x11 x12 x13 x23 x24 (wrap64 (x25 + 1)) x120000 x120001 x120002))) else (none)) else (none)) else (spec_FieldOk.l0 k x0 x11 x12 (wrap64 (x13 + 1)))
end
def spec_FieldOk.f (k : Nat) (l0 : List (S139)) : Option (Bool) := (spec_l01In.f (l0.length : Int) 2 8).bind fun t117 => (if t117 = true then (spec_FieldOk.l0 k l0 l0 (l0.length : Int) 0) else (some false))
theorem spec_FieldOk.calls (k : Nat) (A0 : Option Addr) (c0 : Nat) (l0 : List (S139)) (r : Bool) (w : World) (hr0 : Kd.C k139 w A0 l0.length l0) (hc0 : l0.length ≤ c0) (h : spec_FieldOk.f k l0 = some r) :
  Calls Try.prog 118 #[.slice A0 l0.length c0] w fun e w' => e = .returned (.bool r) ∧ Below w.heap.size w w' := by
 have hu139 := Try.underlying139
 have HR0 := dk hr0
 have HC0 := dk hc0
 clear hr0 hc0
 have HB := dk (Below.refl w.heap.size w)
 have H : ((spec_l01In.f (l0.length : Int) 2 8).bind fun t117 => (if t117 = true then (spec_FieldOk.l0 k l0 l0 (l0.length : Int) 0) else (some false))) = some r := h
 clear h
 replace H := Option.bind_eq_some_iff.mp H
 obtain ⟨t117, A20, H⟩ := H
 try dsimp only at H
 have A2 := dk A20
 clear A20
 by_cases c3 : t117 = true
 ·subst c3
  rw [if_pos rfl] at H
  have H' := dk H
  clear H
  go_enter Try.func118, Try.ntmps118
  go_wp2_with (first | ((with_reducible refine gate_callee (f := 76) rfl ?_); refine gl (some 9) Try.func76 #[.int .i64 (l0.length : Int), .int .i64 2, .int .i64 8] ?_; (with_reducible refine (spec_l01In.calls (l0.length : Int) 2 8 true _ A2.out).mono ?_); rintro e w' ⟨rfl, ⟨nd, rfl⟩⟩; refine ⟨_, rfl, ?_⟩))
  go_loopg [13] k (fun kq v13 w' => ∃ (x13_1 : Int), v13 = .int .i64 x13_1 ∧ Aside0 (spec_FieldOk.l0 kq l0 l0 (l0.length : Int) x13_1 = some r) ∧ Aside0 (kq ≤ k) ∧ Aside0 (Below w.heap.size w w'))
  case atStart => exact ⟨(0), e2_, H', ⟨Nat.le_refl _⟩, ⟨bb HB⟩⟩
  case round =>
   clear H'
   (try clear c1)
   (try clear p2)
   (try clear c3)
   obtain ⟨x13_1, rfl, HA, HK1, HB⟩ := hrel
   cases gk with
   | zero => exact absurd HA.out (by simp [spec_FieldOk.l0])
   | succ k1 =>
    have H := HA.out
    clear HA
    simp only [spec_FieldOk.l0] at H
    by_cases c4 : x13_1 < (l0.length : Int)
    ·rw [if_pos c4] at H
     have c4b0 : decide (x13_1 < (l0.length : Int)) = true := decide_eq_true c4
     clear c4
     by_cases c5 : 0 ≤ x13_1
     ·rw [if_pos c5] at H
      have c5b0 : decide (0 ≤ x13_1) = true := decide_eq_true c5
      clear c5
      by_cases c6 : x13_1 < (l0.length : Int)
      ·rw [if_pos c6] at H
       have c6b0 : decide (x13_1 < (l0.length : Int)) = true := decide_eq_true c6
       clear c6
       replace H := Option.bind_eq_some_iff.mp H
       obtain ⟨t120, A70, H⟩ := H
       try dsimp only at H
       have A7 := dk A70
       clear A70
       by_cases c8 : t120 = true
       ·subst c8
        rw [if_pos rfl] at H
        have c9b0 := eq_true (oa : 0 ≤ x13_1)
        by_cases c10 : x13_1 ≤ (l0.length : Int)
        ·rw [if_pos c10] at H
         have c10b0 := eq_true c10
         have c10b1 : decide (x13_1 ≤ (l0.length : Int)) = true := decide_eq_true c10
         clear c10
         obtain ⟨y121, hy121⟩ : ∃ y_ : List (S139), y_ = (l0.take (x13_1 : Int).toNat) := ⟨_, rfl⟩
         replace H : (spec_FieldOk.l1 k1 l0 l0 (l0.length : Int) x13_1 y121 (y121.length : Int) 0 ((rd_T139 l0 x13_1).f0) ((rd_T139 l0 x13_1).f1) ((rd_T139 l0 x13_1).f2)) = some r := by first | (rw [hy121]; with_reducible exact H) | (have H2_ := (Option.bind_some _ _).symm.trans H; rw [hy121]; with_reducible exact H2_) | (have H2_ := (Option.bind_some _ _).symm.trans H; with_reducible exact H2_) | with_reducible exact H | (rw [hy121]; exact H) | exact H
         have Ny121 := dk hy121
         clear hy121
         have H' := dk H
         clear H
         have p118 : 0 ≤ (x13_1 : Int) := oa
         have q118 : x13_1 < (l0.length : Int) := oa
         obtain ⟨ad118, e118, hx118_0, hx118_1, hx118_2⟩ := at_T139 HR0.out x13_1 p118 q118
         cases e118
         replace hx118_0 := hc HB hx118_0
         replace hx118_1 := hc HB hx118_1
         replace hx118_2 := hc HB hx118_2
         replace p118 := eq_true p118
         replace q118 := eq_true q118
         go_wp2_with (first | ((with_reducible refine gate_dst (N := 4) rfl ?_); refine bx (N := 4) (cs := #[.string (⟨#[]⟩ : ByteArray), .int .i64 0, .int .i64 0]) (t := 139) ?_; intro gb119 hg w11 hbox hb; have BK119 := dk (hbox); have GW119 := gs hg HB; have GE119 := gs hg HB; replace HB := hs_ HB hb; clear hb hbox hg; have ⟨z12_0, z12_1, z12_2, v12_0, v12_1, v12_2⟩ := rz3 BK119) | ((with_reducible refine gate_callee (f := 157) rfl ?_); refine gl (some 19) Try.func157 #[.agg #[.string ((rd_T139 l0 x13_1).f0), .int .i64 ((rd_T139 l0 x13_1).f1), .int .i64 ((rd_T139 l0 x13_1).f2)]] ?_; (with_reducible refine (spec_TeamOk.calls k1 ((rd_T139 l0 x13_1).f0) ((rd_T139 l0 x13_1).f1) ((rd_T139 l0 x13_1).f2) true _ A7.out).mono ?_); rintro e w13 ⟨rfl, hb⟩; refine ⟨_, rfl, ?_⟩; replace BK119 := dk (blk_below (g := gb119) (o := .cells #[.string ((rd_T139 l0 x13_1).f0), .int .i64 ((rd_T139 l0 x13_1).f1), .int .i64 ((rd_T139 l0 x13_1).f2)] 139 (0, 0)) (bp BK119) hb); replace HB := hs_ HB hb; (try clear hb hb2 hk hi); have q14 : (x13_1 : Int) ≤ ((l0.length : Int) : Int) := oa; obtain ⟨i014, hi014, _, hsz14, _⟩ := info_parts info139; have hroom14 : l0.length ≤ c0 := HC0.out; have hC14 : Kd.C k139 _ (some ad118) l0.length l0 := HR0.out; have hcut14 := cut_to (P := Try.prog) 32 139 .i64 Try.underlying32 hi014 (some ad118) l0.length c0 x13_1 (oa) q14 hroom14; have hr14 := Kd.C_take (m := (x13_1 : Int).toNat) hC14 (by omega); have hy14 : y121.length = (x13_1 : Int).toNat := (by rw [Ny121.out, List.length_take]; omega); rw [← Ny121.out] at hr14; rw [← hy14] at hcut14; have HR124 := dk hr14; have HC124 := dk (show y121.length ≤ c0 from by omega); clear hr14 hC14 hroom14 hi014 hsz14; have KY14 := dk hy14; clear hy14; replace q14 := eq_true q14))
         go_loopg [25] k1 (fun kq v25 w' => ∃ (x25_2 : Int), v25 = .int .i64 x25_2 ∧ Aside0 (spec_FieldOk.l1 kq l0 l0 (l0.length : Int) x13_1 y121 (y121.length : Int) x25_2 ((rd_T139 l0 x13_1).f0) ((rd_T139 l0 x13_1).f1) ((rd_T139 l0 x13_1).f2) = some r) ∧ Aside0 (kq ≤ k1) ∧ Aside0 (w'.heap[gb119]? = some (.cells #[.string ((rd_T139 l0 x13_1).f0), .int .i64 ((rd_T139 l0 x13_1).f1), .int .i64 ((rd_T139 l0 x13_1).f2)] 139 (0, 0))) ∧ Aside0 (Below w.heap.size w w'))
         case atStart => exact ⟨(0), e2_, H', ⟨Nat.le_refl _⟩, ⟨bk BK119⟩, ⟨bb HB⟩⟩
         case round =>
          clear H'
          (try clear c1)
          (try clear p1)
          (try clear q1)
          (try clear hx1)
          (try clear p2)
          (try clear c3)
          (try clear c4)
          (try clear c4b0)
          (try clear c5)
          (try clear c5b0)
          (try clear c6)
          (try clear c6b0)
          (try clear c7)
          (try clear c8)
          (try clear c9)
          (try clear c9b0)
          (try clear c10)
          (try clear c10b0)
          (try clear c10b1)
          (try clear c11)
          (try clear p11)
          (try clear q11)
          (try clear hx11)
          (try clear q14)
          (try clear z12_0 z12_1 z12_2)
          (try clear v12_0 v12_1 v12_2)
          (try clear hx118_0)
          (try clear hx118_1)
          (try clear hx118_2)
          (try clear p118)
          (try clear p2)
          (try clear q118)
          (try clear q14)
          obtain ⟨x25_2, rfl, HA, HK2, BK119, HB⟩ := hrel
          cases gk with
          | zero => exact absurd HA.out (by simp [spec_FieldOk.l1])
          | succ k2 =>
           have H := HA.out
           clear HA
           simp only [spec_FieldOk.l1] at H
           by_cases c15 : x25_2 < (y121.length : Int)
           ·rw [if_pos c15] at H
            have c15b0 : decide (x25_2 < (y121.length : Int)) = true := decide_eq_true c15
            clear c15
            by_cases c16 : 0 ≤ x25_2
            ·rw [if_pos c16] at H
             have c16b0 : decide (0 ≤ x25_2) = true := decide_eq_true c16
             clear c16
             by_cases c17 : x25_2 < (y121.length : Int)
             ·rw [if_pos c17] at H
              have c17b0 : decide (x25_2 < (y121.length : Int)) = true := decide_eq_true c17
              clear c17
              by_cases c18 : ((rd_T139 y121 x25_2).f0).toList = ((rd_T139 l0 x13_1).f0).toList
              ·rw [if_pos c18] at H
               have c18b0 : (((rd_T139 y121 x25_2).f0).toList == ((rd_T139 l0 x13_1).f0).toList) = true := beq_iff_eq.mpr c18
               have c18b1 : (((rd_T139 y121 x25_2).f0).toList != ((rd_T139 l0 x13_1).f0).toList) = false := bne_eq_false_iff_eq.mpr c18
               clear c18
               obtain rfl := Option.some.inj H
               have p125 : 0 ≤ (x25_2 : Int) := oa
               have q125 : x25_2 < (y121.length : Int) := oa
               obtain ⟨ad125, e125, hx125_0, hx125_1, hx125_2⟩ := at_T139 HR124.out x25_2 p125 q125
               obtain rfl : ad118 = ad125 := (by injection e125)
               replace hx125_0 := hc HB hx125_0
               replace hx125_1 := hc HB hx125_1
               replace hx125_2 := hc HB hx125_2
               replace p125 := eq_true p125
               replace q125 := eq_true q125
               go_wp2_with (first | ((with_reducible refine gate_dst (N := 6) rfl ?_); refine bx (N := 6) (cs := #[.string (⟨#[]⟩ : ByteArray), .int .i64 0, .int .i64 0]) (t := 139) ?_; intro gb126 hg w19 hbox hb; have BK126 := dk (hbox); have GW126 := gs hg HB; have GE126 := gs hg HB; replace HB := hs_ HB hb; have NB119_126 := gn hg BK119; have NB126_119 := gm hg BK119; replace BK119 := kb BK119 hb; clear hb hbox hg; have hnb20 := NB126_119.out; have hnc20 := NB119_126.out; have ⟨z21_0, z21_1, z21_2, v21_0, v21_1, v21_2⟩ := rz3 BK126; have ⟨z22_0, z22_1, z22_2, v22_0, v22_1, v22_2⟩ := rz3 BK119))
               go_ret
               exact ⟨by first | exact ee | (generalize ByteArray.toList _ = l_; cases l_ <;> rfl) | (generalize ByteArray.toList _ = l_; cases l_ <;> simp), bb HB⟩
              ·rw [if_neg c18] at H
               have c18b0 : (((rd_T139 y121 x25_2).f0).toList == ((rd_T139 l0 x13_1).f0).toList) = false := beq_eq_false_iff_ne.mpr c18
               have c18b1 : (((rd_T139 y121 x25_2).f0).toList != ((rd_T139 l0 x13_1).f0).toList) = true := bne_iff_ne.mpr c18
               by_cases c23 : ((rd_T139 y121 x25_2).f2) = ((rd_T139 l0 x13_1).f2)
               ·rw [if_pos c23] at H
                have c23b0 : (((rd_T139 y121 x25_2).f2) == ((rd_T139 l0 x13_1).f2)) = true := beq_iff_eq.mpr c23
                have c23b1 : (((rd_T139 y121 x25_2).f2) != ((rd_T139 l0 x13_1).f2)) = false := bne_eq_false_iff_eq.mpr c23
                clear c23
                obtain rfl := Option.some.inj H
                have p125 : 0 ≤ (x25_2 : Int) := oa
                have q125 : x25_2 < (y121.length : Int) := oa
                obtain ⟨ad125, e125, hx125_0, hx125_1, hx125_2⟩ := at_T139 HR124.out x25_2 p125 q125
                obtain rfl : ad118 = ad125 := (by injection e125)
                replace hx125_0 := hc HB hx125_0
                replace hx125_1 := hc HB hx125_1
                replace hx125_2 := hc HB hx125_2
                replace p125 := eq_true p125
                replace q125 := eq_true q125
                go_wp2_with (first | ((with_reducible refine gate_dst (N := 6) rfl ?_); refine bx (N := 6) (cs := #[.string (⟨#[]⟩ : ByteArray), .int .i64 0, .int .i64 0]) (t := 139) ?_; intro gb126 hg w24 hbox hb; have BK126 := dk (hbox); have GW126 := gs hg HB; have GE126 := gs hg HB; replace HB := hs_ HB hb; have NB119_126 := gn hg BK119; have NB126_119 := gm hg BK119; replace BK119 := kb BK119 hb; clear hb hbox hg; have hnb25 := NB126_119.out; have hnc25 := NB119_126.out; have ⟨z26_0, z26_1, z26_2, v26_0, v26_1, v26_2⟩ := rz3 BK126; have ⟨z27_0, z27_1, z27_2, v27_0, v27_1, v27_2⟩ := rz3 BK119))
                go_ret
                exact ⟨by first | exact ee | (generalize ByteArray.toList _ = l_; cases l_ <;> rfl) | (generalize ByteArray.toList _ = l_; cases l_ <;> simp), bb HB⟩
               ·rw [if_neg c23] at H
                have c23b0 : (((rd_T139 y121 x25_2).f2) == ((rd_T139 l0 x13_1).f2)) = false := beq_eq_false_iff_ne.mpr c23
                have c23b1 : (((rd_T139 y121 x25_2).f2) != ((rd_T139 l0 x13_1).f2)) = true := bne_iff_ne.mpr c23
                have H' := dk H
                clear H
                have p125 : 0 ≤ (x25_2 : Int) := oa
                have q125 : x25_2 < (y121.length : Int) := oa
                obtain ⟨ad125, e125, hx125_0, hx125_1, hx125_2⟩ := at_T139 HR124.out x25_2 p125 q125
                obtain rfl : ad118 = ad125 := (by injection e125)
                replace hx125_0 := hc HB hx125_0
                replace hx125_1 := hc HB hx125_1
                replace hx125_2 := hc HB hx125_2
                replace p125 := eq_true p125
                replace q125 := eq_true q125
                go_wp2_with (first | ((with_reducible refine gate_dst (N := 6) rfl ?_); refine bx (N := 6) (cs := #[.string (⟨#[]⟩ : ByteArray), .int .i64 0, .int .i64 0]) (t := 139) ?_; intro gb126 hg w28 hbox hb; have BK126 := dk (hbox); have GW126 := gs hg HB; have GE126 := gs hg HB; replace HB := hs_ HB hb; have NB119_126 := gn hg BK119; have NB126_119 := gm hg BK119; replace BK119 := kb BK119 hb; clear hb hbox hg; have hnb29 := NB126_119.out; have hnc29 := NB119_126.out; have ⟨z30_0, z30_1, z30_2, v30_0, v30_1, v30_2⟩ := rz3 BK126; have ⟨z31_0, z31_1, z31_2, v31_0, v31_1, v31_2⟩ := rz3 BK119))
                go_roundg k2
                case measure => have := HK1.out; have := HK2.out; omega
                case rel => exact ⟨(wrap64 (x25_2 + 1)), e2_, H', ⟨by have := HK1.out; have := HK2.out; omega⟩, ⟨bf NB119_126.out BK119⟩, ⟨bb HB⟩⟩
             ·rw [if_neg c17] at H
              exact absurd H (by simp)
            ·rw [if_neg c16] at H
             exact absurd H (by simp)
           ·rw [if_neg c15] at H
            have c15b0 : decide (x25_2 < (y121.length : Int)) = false := decide_eq_false c15
            clear c15
            have H' := dk H
            clear H
            go_wp2
            go_roundg k2
            case measure => have := HK1.out; have := HK2.out; omega
            case rel => exact ⟨(wrap64 (x13_1 + 1)), e2_, H', ⟨by have := HK1.out; have := HK2.out; omega⟩, ⟨bb HB⟩⟩
        ·rw [if_neg c10] at H
         exact absurd H (by simp)
       ·replace c8 := Bool.eq_false_iff.mpr c8
        subst c8
        rw [if_neg (show ¬ (false = true) by decide)] at H
        obtain rfl := Option.some.inj H
        have p118 : 0 ≤ (x13_1 : Int) := oa
        have q118 : x13_1 < (l0.length : Int) := oa
        obtain ⟨ad118, e118, hx118_0, hx118_1, hx118_2⟩ := at_T139 HR0.out x13_1 p118 q118
        cases e118
        replace hx118_0 := hc HB hx118_0
        replace hx118_1 := hc HB hx118_1
        replace hx118_2 := hc HB hx118_2
        replace p118 := eq_true p118
        replace q118 := eq_true q118
        go_wp2_with (first | ((with_reducible refine gate_dst (N := 4) rfl ?_); refine bx (N := 4) (cs := #[.string (⟨#[]⟩ : ByteArray), .int .i64 0, .int .i64 0]) (t := 139) ?_; intro gb119 hg w32 hbox hb; have BK119 := dk (hbox); have GW119 := gs hg HB; have GE119 := gs hg HB; replace HB := hs_ HB hb; clear hb hbox hg; have ⟨z33_0, z33_1, z33_2, v33_0, v33_1, v33_2⟩ := rz3 BK119) | ((with_reducible refine gate_callee (f := 157) rfl ?_); refine gl (some 19) Try.func157 #[.agg #[.string ((rd_T139 l0 x13_1).f0), .int .i64 ((rd_T139 l0 x13_1).f1), .int .i64 ((rd_T139 l0 x13_1).f2)]] ?_; (with_reducible refine (spec_TeamOk.calls k1 ((rd_T139 l0 x13_1).f0) ((rd_T139 l0 x13_1).f1) ((rd_T139 l0 x13_1).f2) false _ A7.out).mono ?_); rintro e w34 ⟨rfl, hb⟩; refine ⟨_, rfl, ?_⟩; replace BK119 := dk (blk_below (g := gb119) (o := .cells #[.string ((rd_T139 l0 x13_1).f0), .int .i64 ((rd_T139 l0 x13_1).f1), .int .i64 ((rd_T139 l0 x13_1).f2)] 139 (0, 0)) (bp BK119) hb); replace HB := hs_ HB hb; (try clear hb hb2 hk hi)))
        go_ret
        exact ⟨by first | exact ee | (generalize ByteArray.toList _ = l_; cases l_ <;> rfl) | (generalize ByteArray.toList _ = l_; cases l_ <;> simp), bb HB⟩
      ·rw [if_neg c6] at H
       exact absurd H (by simp)
     ·rw [if_neg c5] at H
      exact absurd H (by simp)
    ·rw [if_neg c4] at H
     have c4b0 : decide (x13_1 < (l0.length : Int)) = false := decide_eq_false c4
     clear c4
     obtain rfl := Option.some.inj H
     go_wp2
     go_ret
     exact ⟨by first | exact ee | (generalize ByteArray.toList _ = l_; cases l_ <;> rfl) | (generalize ByteArray.toList _ = l_; cases l_ <;> simp), bb HB⟩
 ·replace c3 := Bool.eq_false_iff.mpr c3
  subst c3
  rw [if_neg (show ¬ (false = true) by decide)] at H
  obtain rfl := Option.some.inj H
  go_enter Try.func118, Try.ntmps118
  go_wp2_with (first | ((with_reducible refine gate_callee (f := 76) rfl ?_); refine gl (some 9) Try.func76 #[.int .i64 (l0.length : Int), .int .i64 2, .int .i64 8] ?_; (with_reducible refine (spec_l01In.calls (l0.length : Int) 2 8 false _ A2.out).mono ?_); rintro e w' ⟨rfl, ⟨nd, rfl⟩⟩; refine ⟨_, rfl, ?_⟩))
  go_ret
  exact ⟨by first | exact ee | (generalize ByteArray.toList _ = l_; cases l_ <;> rfl) | (generalize ByteArray.toList _ = l_; cases l_ <;> simp), bb HB⟩
end Go.Proofs.Ythfefanapneocaa.Q
end
namespace Go.Proofs.Ythfefanapneocaa.Q
open Go.RowKit Go.Proofs.YthfefanapneocaaW.PrintWords Go.Proofs.YthfefanapneocaaW.PrintLast Go.Proofs.YthfefanapneocaaW.PrintMore
attribute [local go_sem] max2_int min2_int max_two min_two max_three min_three max_four min_four
set_option linter.unusedVariables false
set_option linter.unusedSimpArgs false
set_option maxRecDepth 100000
set_option maxHeartbeats 8000000
def spec_l02Has.l0 : Nat → Int → List Int → Int → Int → Option (Bool)
 | 0, _, _, _, _ => none
 | k + 1, x1, x7, x8, x9 => if x9 < x8 then (if 0 ≤ x9 then (if x9 < (x7.length : Int) then (if (rd x7 x9) = x1 then (some true) else (spec_l02Has.l0 k x1 x7 x8 (wrap64 (x9 + 1)))) else (none)) else (none)) else (some false)
def spec_l02Has.f (k : Nat) (l0 : List Int) (a1 : Int) : Option (Bool) := spec_l02Has.l0 k a1 l0 (l0.length : Int) 0
theorem spec_l02Has.calls (k : Nat) (A0 : Option Addr) (c0 : Nat) (l0 : List Int) (a1 : Int) (r : Bool) (w : World) (hr0 : Kd.C (Kd.int .i64) w A0 l0.length l0) (hc0 : l0.length ≤ c0) (h : spec_l02Has.f k l0 a1 = some r) :
  Calls Try.prog 87 #[.slice A0 l0.length c0, .int .i64 a1] w fun e w' => e = .returned (.bool r) ∧ Drawn0 w w' := by
 have HR0 := dk hr0
 have HC0 := dk hc0
 clear hr0 hc0
 have H : (spec_l02Has.l0 k a1 l0 (l0.length : Int) 0) = some r := h
 clear h
 have H' := dk H
 clear H
 go_enter Try.func87, Try.ntmps87
 go_wp2
 go_loopg [9] k (fun kq v9 w' => ∃ (x9_1 : Int), v9 = .int .i64 x9_1 ∧ Aside0 (spec_l02Has.l0 kq a1 l0 (l0.length : Int) x9_1 = some r) ∧ Aside0 (kq ≤ k) ∧ Drawn0 w w')
 case atStart => exact ⟨(0), e2_, H', ⟨Nat.le_refl _⟩, by repeat (first | exact Drawn0.refl _ | apply Drawn0.step)⟩
 case round =>
  clear H'
  (try clear p2)
  obtain ⟨x9_1, rfl, HA, HK1, ⟨m1, rfl⟩⟩ := hrel
  cases gk with
  | zero => exact absurd HA.out (by simp [spec_l02Has.l0])
  | succ k1 =>
   have H := HA.out
   clear HA
   simp only [spec_l02Has.l0] at H
   by_cases c3 : x9_1 < (l0.length : Int)
   ·rw [if_pos c3] at H
    have c3b0 : decide (x9_1 < (l0.length : Int)) = true := decide_eq_true c3
    clear c3
    by_cases c4 : 0 ≤ x9_1
    ·rw [if_pos c4] at H
     have c4b0 : decide (0 ≤ x9_1) = true := decide_eq_true c4
     clear c4
     by_cases c5 : x9_1 < (l0.length : Int)
     ·rw [if_pos c5] at H
      have c5b0 : decide (x9_1 < (l0.length : Int)) = true := decide_eq_true c5
      clear c5
      by_cases c6 : (rd l0 x9_1) = a1
      ·rw [if_pos c6] at H
       have c6b0 : ((rd l0 x9_1) == a1) = true := beq_iff_eq.mpr c6
       have c6b1 : ((rd l0 x9_1) != a1) = false := bne_eq_false_iff_eq.mpr c6
       clear c6
       obtain rfl := Option.some.inj H
       have p127 : 0 ≤ (x9_1 : Int) := oa
       have q127 : x9_1 < (l0.length : Int) := oa
       obtain ⟨ad127, e127, hx127_0⟩ := Kd.at_int HR0.out x9_1 p127 q127
       cases e127
       replace p127 := eq_true p127
       replace q127 := eq_true q127
       go_wp2
       go_ret
       exact ⟨e2_, by repeat (first | exact Drawn0.refl _ | apply Drawn0.step)⟩
      ·rw [if_neg c6] at H
       have c6b0 : ((rd l0 x9_1) == a1) = false := beq_eq_false_iff_ne.mpr c6
       have c6b1 : ((rd l0 x9_1) != a1) = true := bne_iff_ne.mpr c6
       have H' := dk H
       clear H
       have p127 : 0 ≤ (x9_1 : Int) := oa
       have q127 : x9_1 < (l0.length : Int) := oa
       obtain ⟨ad127, e127, hx127_0⟩ := Kd.at_int HR0.out x9_1 p127 q127
       cases e127
       replace p127 := eq_true p127
       replace q127 := eq_true q127
       go_wp2
       go_roundg k1
       case measure => have := HK1.out; omega
       case rel => exact ⟨(wrap64 (x9_1 + 1)), e2_, H', ⟨by have := HK1.out; omega⟩, by repeat (first | exact Drawn0.refl _ | apply Drawn0.step)⟩
     ·rw [if_neg c5] at H
      exact absurd H (by simp)
    ·rw [if_neg c4] at H
     exact absurd H (by simp)
   ·rw [if_neg c3] at H
    have c3b0 : decide (x9_1 < (l0.length : Int)) = false := decide_eq_false c3
    clear c3
    obtain rfl := Option.some.inj H
    go_wp2
    go_ret
    exact ⟨e2_, by repeat (first | exact Drawn0.refl _ | apply Drawn0.step)⟩
end Go.Proofs.Ythfefanapneocaa.Q
section
namespace Go.Proofs.Ythfefanapneocaa.Q
open Go.RowKit Go.Proofs.YthfefanapneocaaW.PrintWords Go.Proofs.YthfefanapneocaaW.PrintLast Go.Proofs.YthfefanapneocaaW.PrintMore
attribute [local go_sem] max2_int min2_int max_two min_two max_three min_three max_four min_four
set_option linter.unusedVariables false
set_option linter.unusedSimpArgs false
set_option maxRecDepth 100000
set_option maxHeartbeats 8000000
mutual
def spec_RulesOk.j0 : Nat → Bool → Int → Int → Int → List Int → Bool → Option (Bool)
 | 0, _, _, _, _, _, _ => none
 | k + 1, x31, x129000, x129001, x129002, x129003, x129004 => if x31 = true then (some false) else (spec_RulesOk.l0 k x129003 (x129003.length : Int) 0 x129000 x129001 x129002 x129003 x129004)
def spec_RulesOk.l0 : Nat → List Int → Int → Int → Int → Int → Int → List Int → Bool → Option (Bool)
 | 0, _, _, _, _, _, _, _, _ => none
 | k + 1, x33, x34, x35, x129000, x129001, x129002, x129003, x129004 => if x35 < x34 then (if 0 ≤ x35 then (if x35 < (x33.length : Int) then ((spec_l01In.f (rd x33 x35) 1 8).bind fun t134 => (if t134 = true then (if x35 ≤ (x129003.length : Int) then ((spec_l02Has.f k (x129003.take (x35 : Int).toNat) (rd x33 x35)).bind fun t136 => (if t136 = true then (some false) else (spec_RulesOk.l0 k x33 x34 (wrap64 (x35 + 1)) x129000 x129001 x129002 x129003 x129004))) else (none)) else (some false))) else (none)) else (none)) else (some true)
end
def spec_RulesOk.f (k : Nat) (a0_0 : Int) (a0_1 : Int) (a0_2 : Int) (l0_3 : List Int) (a0_4 : Bool) : Option (Bool) := (spec_l01In.f a0_0 0 10).bind fun t129 => (if t129 = true then ((spec_l01In.f a0_1 0 a0_0).bind fun t130 => (if t130 = true then ((spec_l01In.f a0_2 0 a0_1).bind fun t131 => (if t131 = true then ((spec_l01In.f (l0_3.length : Int) 1 8).bind fun t132 => (spec_RulesOk.j0 k (!t132) a0_0 a0_1 a0_2 l0_3 a0_4)) else (spec_RulesOk.j0 k true a0_0 a0_1 a0_2 l0_3 a0_4))) else (spec_RulesOk.j0 k true a0_0 a0_1 a0_2 l0_3 a0_4))) else (spec_RulesOk.j0 k true a0_0 a0_1 a0_2 l0_3 a0_4))
theorem spec_RulesOk.calls (k : Nat) (a0_0 : Int) (a0_1 : Int) (a0_2 : Int) (A0_3 : Option Addr) (c0_3 : Nat) (l0_3 : List Int) (a0_4 : Bool) (r : Bool) (w : World) (hr0_3 : Kd.C (Kd.int .i64) w A0_3 l0_3.length l0_3) (hc0_3 : l0_3.length ≤ c0_3) (h : spec_RulesOk.f k a0_0 a0_1 a0_2 l0_3 a0_4 = some r) :
  Calls Try.prog 119 #[.agg #[.int .i64 a0_0, .int .i64 a0_1, .int .i64 a0_2, .slice A0_3 l0_3.length c0_3, .bool a0_4]] w fun e w' => e = .returned (.bool r) ∧ Below w.heap.size w w' := by
 have hu33 := Try.underlying33
 have HR0_3 := dk hr0_3
 have HC0_3 := dk hc0_3
 clear hr0_3 hc0_3
 have HB := dk (Below.refl w.heap.size w)
 have H : ((spec_l01In.f a0_0 0 10).bind fun t129 => (if t129 = true then ((spec_l01In.f a0_1 0 a0_0).bind fun t130 => (if t130 = true then ((spec_l01In.f a0_2 0 a0_1).bind fun t131 => (if t131 = true then ((spec_l01In.f (l0_3.length : Int) 1 8).bind fun t132 => (spec_RulesOk.j0 k (!t132) a0_0 a0_1 a0_2 l0_3 a0_4)) else (spec_RulesOk.j0 k true a0_0 a0_1 a0_2 l0_3 a0_4))) else (spec_RulesOk.j0 k true a0_0 a0_1 a0_2 l0_3 a0_4))) else (spec_RulesOk.j0 k true a0_0 a0_1 a0_2 l0_3 a0_4))) = some r := h
 clear h
 have HC2 := dk H
 clear H
 go_enter Try.func119, Try.ntmps119
 go_upto_region 1 with (first | ((with_reducible refine gate_dst (N := 1) rfl ?_); (try (refine gate_guard (by rfl) ?_; dsimp only)); refine bx (N := 1) (cs := #[.int .i64 a0_0, .int .i64 a0_1, .int .i64 a0_2, .slice A0_3 l0_3.length c0_3, .bool a0_4]) (t := 33) ?_; intro gb128 hg w3 hbox hb; have BK128 := dk (hbox); have GW128 := gs hg HB; have GE128 := gs hg HB; replace HB := hs_ HB hb; clear hb hbox hg))
 (try simp only [Act.put, List.setIfInBounds_toArray, List.set_cons_zero, List.set_cons_succ])
 go_cut [31] (fun v31 wc => ∃ (kq : Nat) (x31_1 : Bool), v31 = .bool x31_1 ∧ Aside0 (spec_RulesOk.j0 kq x31_1 a0_0 a0_1 a0_2 l0_3 a0_4 = some r) ∧ Aside0 (kq ≤ k) ∧ Aside0 (wc.heap[gb128]? = some (.cells #[.int .i64 a0_0, .int .i64 a0_1, .int .i64 a0_2, (.slice A0_3 l0_3.length c0_3), .bool a0_4] 33 (0, 0))) ∧ Aside0 (Below w.heap.size w wc))
 case first =>
  have H := HC2.out
  clear HC2
  replace H := Option.bind_eq_some_iff.mp H
  obtain ⟨t129, A40, H⟩ := H
  try dsimp only at H
  have A4 := dk A40
  clear A40
  by_cases c5 : t129 = true
  ·subst c5
   rw [if_pos rfl] at H
   replace H := Option.bind_eq_some_iff.mp H
   obtain ⟨t130, A60, H⟩ := H
   try dsimp only at H
   have A6 := dk A60
   clear A60
   by_cases c7 : t130 = true
   ·subst c7
    rw [if_pos rfl] at H
    replace H := Option.bind_eq_some_iff.mp H
    obtain ⟨t131, A80, H⟩ := H
    try dsimp only at H
    have A8 := dk A80
    clear A80
    by_cases c9 : t131 = true
    ·subst c9
     rw [if_pos rfl] at H
     replace H := Option.bind_eq_some_iff.mp H
     obtain ⟨t132, A100, H⟩ := H
     try dsimp only at H
     have A10 := dk A100
     clear A100
     have H' := dk H
     clear H
     have ⟨z11_0, z11_1, z11_2, z11_3, z11_4, v11_0, v11_1, v11_2, v11_3, v11_4⟩ := rz5 BK128
     go_wp2_with (first | ((with_reducible refine gate_callee (f := 76) rfl ?_); refine gl (some 7) Try.func76 #[.int .i64 a0_0, .int .i64 0, .int .i64 10] ?_; (with_reducible refine (spec_l01In.calls a0_0 0 10 true _ A4.out).mono ?_); rintro e w' ⟨rfl, ⟨nd, rfl⟩⟩; refine ⟨_, rfl, ?_⟩) | (go_at_call 76; (with_reducible refine (spec_l01In.calls a0_1 0 a0_0 true _ A6.out).mono ?_); rintro e w' ⟨rfl, ⟨nd, rfl⟩⟩) | (go_at_call 76; (with_reducible refine (spec_l01In.calls a0_2 0 a0_1 true _ A8.out).mono ?_); rintro e w' ⟨rfl, ⟨nd, rfl⟩⟩) | (go_at_call 76; (with_reducible refine (spec_l01In.calls (l0_3.length : Int) 1 8 t132 _ A10.out).mono ?_); rintro e w' ⟨rfl, ⟨nd, rfl⟩⟩))
     go_meet
     case rel => exact ⟨_, (!t132), e2_, H', ⟨by first | omega | exact Nat.le_refl _⟩, ⟨bk BK128⟩, ⟨bb HB⟩⟩
    ·replace c9 := Bool.eq_false_iff.mpr c9
     subst c9
     rw [if_neg (show ¬ (false = true) by decide)] at H
     have H' := dk H
     clear H
     have ⟨z12_0, z12_1, z12_2, z12_3, z12_4, v12_0, v12_1, v12_2, v12_3, v12_4⟩ := rz5 BK128
     go_wp2_with (first | ((with_reducible refine gate_callee (f := 76) rfl ?_); refine gl (some 7) Try.func76 #[.int .i64 a0_0, .int .i64 0, .int .i64 10] ?_; (with_reducible refine (spec_l01In.calls a0_0 0 10 true _ A4.out).mono ?_); rintro e w' ⟨rfl, ⟨nd, rfl⟩⟩; refine ⟨_, rfl, ?_⟩) | (go_at_call 76; (with_reducible refine (spec_l01In.calls a0_1 0 a0_0 true _ A6.out).mono ?_); rintro e w' ⟨rfl, ⟨nd, rfl⟩⟩) | (go_at_call 76; (with_reducible refine (spec_l01In.calls a0_2 0 a0_1 false _ A8.out).mono ?_); rintro e w' ⟨rfl, ⟨nd, rfl⟩⟩))
     go_meet
     case rel => exact ⟨_, (true), e2_, H', ⟨by first | omega | exact Nat.le_refl _⟩, ⟨bk BK128⟩, ⟨bb HB⟩⟩
   ·replace c7 := Bool.eq_false_iff.mpr c7
    subst c7
    rw [if_neg (show ¬ (false = true) by decide)] at H
    have H' := dk H
    clear H
    have ⟨z13_0, z13_1, z13_2, z13_3, z13_4, v13_0, v13_1, v13_2, v13_3, v13_4⟩ := rz5 BK128
    go_wp2_with (first | ((with_reducible refine gate_callee (f := 76) rfl ?_); refine gl (some 7) Try.func76 #[.int .i64 a0_0, .int .i64 0, .int .i64 10] ?_; (with_reducible refine (spec_l01In.calls a0_0 0 10 true _ A4.out).mono ?_); rintro e w' ⟨rfl, ⟨nd, rfl⟩⟩; refine ⟨_, rfl, ?_⟩) | (go_at_call 76; (with_reducible refine (spec_l01In.calls a0_1 0 a0_0 false _ A6.out).mono ?_); rintro e w' ⟨rfl, ⟨nd, rfl⟩⟩))
    go_meet
    case rel => exact ⟨_, (true), e2_, H', ⟨by first | omega | exact Nat.le_refl _⟩, ⟨bk BK128⟩, ⟨bb HB⟩⟩
  ·replace c5 := Bool.eq_false_iff.mpr c5
   subst c5
   rw [if_neg (show ¬ (false = true) by decide)] at H
   have H' := dk H
   clear H
   have ⟨z14_0, z14_1, z14_2, z14_3, z14_4, v14_0, v14_1, v14_2, v14_3, v14_4⟩ := rz5 BK128
   go_wp2_with (first | ((with_reducible refine gate_callee (f := 76) rfl ?_); refine gl (some 7) Try.func76 #[.int .i64 a0_0, .int .i64 0, .int .i64 10] ?_; (with_reducible refine (spec_l01In.calls a0_0 0 10 false _ A4.out).mono ?_); rintro e w' ⟨rfl, ⟨nd, rfl⟩⟩; refine ⟨_, rfl, ?_⟩))
   go_meet
   case rel => exact ⟨_, (true), e2_, H', ⟨by first | omega | exact Nat.le_refl _⟩, ⟨bk BK128⟩, ⟨bb HB⟩⟩
 case rest =>
  clear HC2
  (try clear c1)
  (try clear p2)
  (try clear c5)
  (try clear c7)
  (try clear c9)
  (try clear c11)
  (try clear z11_0 z11_1 z11_2 z11_3 z11_4)
  (try clear z12_0 z12_1 z12_2 z12_3 z12_4)
  (try clear z13_0 z13_1 z13_2 z13_3 z13_4)
  (try clear z14_0 z14_1 z14_2 z14_3 z14_4)
  (try clear v11_0 v11_1 v11_2 v11_3 v11_4)
  (try clear v12_0 v12_1 v12_2 v12_3 v12_4)
  (try clear v13_0 v13_1 v13_2 v13_3 v13_4)
  (try clear v14_0 v14_1 v14_2 v14_3 v14_4)
  obtain ⟨kq, x31_1, rfl, HA, HJ1, BK128, HB⟩ := hcut
  cases kq with
  | zero => exact absurd HA.out (by simp [spec_RulesOk.j0])
  | succ kj1 =>
   have H := HA.out
   clear HA
   simp only [spec_RulesOk.j0] at H
   by_cases c15 : x31_1 = true
   ·subst c15
    rw [if_pos rfl] at H
    obtain rfl := Option.some.inj H
    go_wp2
    go_ret
    exact ⟨ee, bb HB⟩
   ·replace c15 := Bool.eq_false_iff.mpr c15
    subst c15
    rw [if_neg (show ¬ (false = true) by decide)] at H
    have H' := dk H
    clear H
    have ⟨z16_0, z16_1, z16_2, z16_3, z16_4, v16_0, v16_1, v16_2, v16_3, v16_4⟩ := rz5 BK128
    go_wp2
    go_loopg [35] kj1 (fun kq v35 w' => ∃ (x35_2 : Int), v35 = .int .i64 x35_2 ∧ Aside0 (spec_RulesOk.l0 kq l0_3 (l0_3.length : Int) x35_2 a0_0 a0_1 a0_2 l0_3 a0_4 = some r) ∧ Aside0 (kq ≤ kj1) ∧ Aside0 (w'.heap[gb128]? = some (.cells #[.int .i64 a0_0, .int .i64 a0_1, .int .i64 a0_2, (.slice A0_3 l0_3.length c0_3), .bool a0_4] 33 (0, 0))) ∧ Aside0 (Below w.heap.size w w'))
    case atStart => exact ⟨(0), e2_, H', ⟨Nat.le_refl _⟩, ⟨bk BK128⟩, ⟨bb HB⟩⟩
    case round =>
     clear H'
     (try clear c1)
     (try clear p2)
     (try clear c5)
     (try clear c7)
     (try clear c9)
     (try clear c11)
     (try clear c15)
     (try clear z11_0 z11_1 z11_2 z11_3 z11_4)
     (try clear z12_0 z12_1 z12_2 z12_3 z12_4)
     (try clear z13_0 z13_1 z13_2 z13_3 z13_4)
     (try clear z14_0 z14_1 z14_2 z14_3 z14_4)
     (try clear z16_0 z16_1 z16_2 z16_3 z16_4)
     (try clear v11_0 v11_1 v11_2 v11_3 v11_4)
     (try clear v12_0 v12_1 v12_2 v12_3 v12_4)
     (try clear v13_0 v13_1 v13_2 v13_3 v13_4)
     (try clear v14_0 v14_1 v14_2 v14_3 v14_4)
     (try clear v16_0 v16_1 v16_2 v16_3 v16_4)
     (try clear p2)
     obtain ⟨x35_2, rfl, HA, HK2, BK128, HB⟩ := hrel
     cases gk with
     | zero => exact absurd HA.out (by simp [spec_RulesOk.l0])
     | succ k2 =>
      have H := HA.out
      clear HA
      simp only [spec_RulesOk.l0] at H
      by_cases c17 : x35_2 < (l0_3.length : Int)
      ·rw [if_pos c17] at H
       have c17b0 : decide (x35_2 < (l0_3.length : Int)) = true := decide_eq_true c17
       clear c17
       by_cases c18 : 0 ≤ x35_2
       ·rw [if_pos c18] at H
        have c18b0 : decide (0 ≤ x35_2) = true := decide_eq_true c18
        clear c18
        by_cases c19 : x35_2 < (l0_3.length : Int)
        ·rw [if_pos c19] at H
         have c19b0 : decide (x35_2 < (l0_3.length : Int)) = true := decide_eq_true c19
         clear c19
         replace H := Option.bind_eq_some_iff.mp H
         obtain ⟨t134, A200, H⟩ := H
         try dsimp only at H
         have A20 := dk A200
         clear A200
         by_cases c21 : t134 = true
         ·subst c21
          rw [if_pos rfl] at H
          have c22b0 := eq_true (oa : 0 ≤ x35_2)
          by_cases c23 : x35_2 ≤ (l0_3.length : Int)
          ·rw [if_pos c23] at H
           have c23b0 := eq_true c23
           have c23b1 : decide (x35_2 ≤ (l0_3.length : Int)) = true := decide_eq_true c23
           clear c23
           replace H := Option.bind_eq_some_iff.mp H
           obtain ⟨t136, A240, H⟩ := H
           try dsimp only at H
           have A24 := dk A240
           clear A240
           by_cases c25 : t136 = true
           ·subst c25
            rw [if_pos rfl] at H
            obtain rfl := Option.some.inj H
            have p133 : 0 ≤ (x35_2 : Int) := oa
            have q133 : x35_2 < (l0_3.length : Int) := oa
            obtain ⟨ad133, e133, hx133_0⟩ := Kd.at_int HR0_3.out x35_2 p133 q133
            cases e133
            replace hx133_0 := hc HB hx133_0
            replace p133 := eq_true p133
            replace q133 := eq_true q133
            go_wp2_with (first | ((with_reducible refine gate_callee (f := 76) rfl ?_); refine gl (some 41) Try.func76 #[.int .i64 (rd l0_3 x35_2), .int .i64 1, .int .i64 8] ?_; (with_reducible refine (spec_l01In.calls (rd l0_3 x35_2) 1 8 true _ A20.out).mono ?_); rintro e w' ⟨rfl, ⟨nd, rfl⟩⟩; refine ⟨_, rfl, ?_⟩; have ⟨z26_0, z26_1, z26_2, z26_3, z26_4, v26_0, v26_1, v26_2, v26_3, v26_4⟩ := rz5 BK128; obtain ⟨i027, hi027, _, hsz27, _⟩ := info_parts info3; obtain ⟨hcut27, hA27, hC27⟩ := print_take_of (P := Try.prog) (Value.int .i64) 0 23 3 .i64 Try.underlying23 hi027 hsz27 (some ad133) c0_3 l0_3 x35_2 (oa) (oa) HC0_3.out; have HR135 := dk (Kd.C_of_reads (h1 := fun _ => rfl) (hA27 _ (Kd.reads_of_C HR0_3.out))); have HC135 := dk hC27; clear hA27 hC27 hi027 hsz27) | (go_at_call 87; refine calls_of_args (args' := #[.slice (some ad133) (l0_3.take (x35_2 : Int).toNat).length c0_3, .int .i64 (rd l0_3 x35_2)]) (by first | (rw [show (l0_3.take (x35_2 : Int).toNat).length = x35_2.toNat from (by rw [List.length_take]; have h_ : (x35_2 : Int) ≤ (l0_3.length : Int) := oa; omega)] <;> rfl) | rfl) ?_; (with_reducible refine (spec_l02Has.calls k2 _ _ (l0_3.take (x35_2 : Int).toNat) (rd l0_3 x35_2) true _ ?side1 ?side2 A24.out).mono ?_); (case side1 => repeat (first | exact (Kd.C_below HR135.out (bb HB)) | (with_reducible refine Kd.C_alloc ?_ _) | (with_reducible refine Kd.C_drewN ?_ _) | (with_reducible refine Kd.C_drew ?_))); (case side2 => exact HC135.out); rintro e w' ⟨rfl, ⟨nd, rfl⟩⟩))
            go_ret
            exact ⟨ee, bb HB⟩
           ·replace c25 := Bool.eq_false_iff.mpr c25
            subst c25
            rw [if_neg (show ¬ (false = true) by decide)] at H
            have H' := dk H
            clear H
            have p133 : 0 ≤ (x35_2 : Int) := oa
            have q133 : x35_2 < (l0_3.length : Int) := oa
            obtain ⟨ad133, e133, hx133_0⟩ := Kd.at_int HR0_3.out x35_2 p133 q133
            cases e133
            replace hx133_0 := hc HB hx133_0
            replace p133 := eq_true p133
            replace q133 := eq_true q133
            go_wp2_with (first | ((with_reducible refine gate_callee (f := 76) rfl ?_); refine gl (some 41) Try.func76 #[.int .i64 (rd l0_3 x35_2), .int .i64 1, .int .i64 8] ?_; (with_reducible refine (spec_l01In.calls (rd l0_3 x35_2) 1 8 true _ A20.out).mono ?_); rintro e w' ⟨rfl, ⟨nd, rfl⟩⟩; refine ⟨_, rfl, ?_⟩; have ⟨z28_0, z28_1, z28_2, z28_3, z28_4, v28_0, v28_1, v28_2, v28_3, v28_4⟩ := rz5 BK128; obtain ⟨i029, hi029, _, hsz29, _⟩ := info_parts info3; obtain ⟨hcut29, hA29, hC29⟩ := print_take_of (P := Try.prog) (Value.int .i64) 0 23 3 .i64 Try.underlying23 hi029 hsz29 (some ad133) c0_3 l0_3 x35_2 (oa) (oa) HC0_3.out; have HR135 := dk (Kd.C_of_reads (h1 := fun _ => rfl) (hA29 _ (Kd.reads_of_C HR0_3.out))); have HC135 := dk hC29; clear hA29 hC29 hi029 hsz29) | (go_at_call 87; refine calls_of_args (args' := #[.slice (some ad133) (l0_3.take (x35_2 : Int).toNat).length c0_3, .int .i64 (rd l0_3 x35_2)]) (by first | (rw [show (l0_3.take (x35_2 : Int).toNat).length = x35_2.toNat from (by rw [List.length_take]; have h_ : (x35_2 : Int) ≤ (l0_3.length : Int) := oa; omega)] <;> rfl) | rfl) ?_; (with_reducible refine (spec_l02Has.calls k2 _ _ (l0_3.take (x35_2 : Int).toNat) (rd l0_3 x35_2) false _ ?side1 ?side2 A24.out).mono ?_); (case side1 => repeat (first | exact (Kd.C_below HR135.out (bb HB)) | (with_reducible refine Kd.C_alloc ?_ _) | (with_reducible refine Kd.C_drewN ?_ _) | (with_reducible refine Kd.C_drew ?_))); (case side2 => exact HC135.out); rintro e w' ⟨rfl, ⟨nd, rfl⟩⟩))
            go_roundg k2
            case measure => have := HJ1.out; have := HK2.out; omega
            case rel => exact ⟨(wrap64 (x35_2 + 1)), e2_, H', ⟨by have := HJ1.out; have := HK2.out; omega⟩, ⟨bk BK128⟩, ⟨bb HB⟩⟩
          ·rw [if_neg c23] at H
           exact absurd H (by simp)
         ·replace c21 := Bool.eq_false_iff.mpr c21
          subst c21
          rw [if_neg (show ¬ (false = true) by decide)] at H
          obtain rfl := Option.some.inj H
          have p133 : 0 ≤ (x35_2 : Int) := oa
          have q133 : x35_2 < (l0_3.length : Int) := oa
          obtain ⟨ad133, e133, hx133_0⟩ := Kd.at_int HR0_3.out x35_2 p133 q133
          cases e133
          replace hx133_0 := hc HB hx133_0
          replace p133 := eq_true p133
          replace q133 := eq_true q133
          go_wp2_with (first | ((with_reducible refine gate_callee (f := 76) rfl ?_); refine gl (some 41) Try.func76 #[.int .i64 (rd l0_3 x35_2), .int .i64 1, .int .i64 8] ?_; (with_reducible refine (spec_l01In.calls (rd l0_3 x35_2) 1 8 false _ A20.out).mono ?_); rintro e w' ⟨rfl, ⟨nd, rfl⟩⟩; refine ⟨_, rfl, ?_⟩))
          go_ret
          exact ⟨ee, bb HB⟩
        ·rw [if_neg c19] at H
         exact absurd H (by simp)
       ·rw [if_neg c18] at H
        exact absurd H (by simp)
      ·rw [if_neg c17] at H
       have c17b0 : decide (x35_2 < (l0_3.length : Int)) = false := decide_eq_false c17
       clear c17
       obtain rfl := Option.some.inj H
       go_wp2
       go_ret
       exact ⟨ee, bb HB⟩
end Go.Proofs.Ythfefanapneocaa.Q
end
namespace Go.Proofs.Ythfefanapneocaa.Q
open Go.RowKit Go.Proofs.YthfefanapneocaaW.PrintWords Go.Proofs.YthfefanapneocaaW.PrintLast Go.Proofs.YthfefanapneocaaW.PrintMore
attribute [local go_sem] max2_int min2_int max_two min_two max_three min_three max_four min_four
set_option linter.unusedVariables false
set_option linter.unusedSimpArgs false
set_option maxRecDepth 100000
set_option maxHeartbeats 8000000
def spec_GameOk.j0 : Nat → Bool → Int → Int → Int → Int → Int → Option (Bool)
 | 0, _, _, _, _, _, _ => none
 | k + 1, x36, x138000, x138001, x138002, x138003, x138004 => if x36 = true then (some false) else (if x138004 = 1 then ((spec_l01In.f x138002 0 99).bind fun t142 => (if t142 = true then ((spec_l01In.f x138003 0 99).bind fun t143 => (some t143)) else (some false))) else (if x138002 = 0 then (some (x138003 == 0)) else (some false)))
def spec_GameOk.f (k : Nat) (a0 : Int) (a1_0 : Int) (a1_1 : Int) (a1_2 : Int) (a1_3 : Int) (a1_4 : Int) : Option (Bool) := (spec_l01In.f a0 2 8).bind fun t138 => (if t138 = true then ((spec_l01In.f a1_0 0 (wrap64 (a0 - 1))).bind fun t139 => (if t139 = true then ((spec_l01In.f a1_1 0 (wrap64 (a0 - 1))).bind fun t140 => (if t140 = true then (if a1_0 = a1_1 then (spec_GameOk.j0 k true a1_0 a1_1 a1_2 a1_3 a1_4) else ((spec_l01In.f a1_4 0 4).bind fun t141 => (spec_GameOk.j0 k (!t141) a1_0 a1_1 a1_2 a1_3 a1_4))) else (spec_GameOk.j0 k true a1_0 a1_1 a1_2 a1_3 a1_4))) else (spec_GameOk.j0 k true a1_0 a1_1 a1_2 a1_3 a1_4))) else (spec_GameOk.j0 k true a1_0 a1_1 a1_2 a1_3 a1_4))
theorem spec_GameOk.calls (k : Nat) (a0 : Int) (a1_0 : Int) (a1_1 : Int) (a1_2 : Int) (a1_3 : Int) (a1_4 : Int) (r : Bool) (w : World) (h : spec_GameOk.f k a0 a1_0 a1_1 a1_2 a1_3 a1_4 = some r) :
  Calls Try.prog 158 #[.int .i64 a0, .agg #[.int .i64 a1_0, .int .i64 a1_1, .int .i64 a1_2, .int .i64 a1_3, .int .i64 a1_4]] w fun e w' => e = .returned (.bool r) ∧ Below w.heap.size w w' := by
 have hu95 := Try.underlying95
 have HB := dk (Below.refl w.heap.size w)
 have H : ((spec_l01In.f a0 2 8).bind fun t138 => (if t138 = true then ((spec_l01In.f a1_0 0 (wrap64 (a0 - 1))).bind fun t139 => (if t139 = true then ((spec_l01In.f a1_1 0 (wrap64 (a0 - 1))).bind fun t140 => (if t140 = true then (if a1_0 = a1_1 then (spec_GameOk.j0 k true a1_0 a1_1 a1_2 a1_3 a1_4) else ((spec_l01In.f a1_4 0 4).bind fun t141 => (spec_GameOk.j0 k (!t141) a1_0 a1_1 a1_2 a1_3 a1_4))) else (spec_GameOk.j0 k true a1_0 a1_1 a1_2 a1_3 a1_4))) else (spec_GameOk.j0 k true a1_0 a1_1 a1_2 a1_3 a1_4))) else (spec_GameOk.j0 k true a1_0 a1_1 a1_2 a1_3 a1_4))) = some r := h
 clear h
 have HC3 := dk H
 clear H
 go_enter Try.func158, Try.ntmps158
 go_upto_region 1 with (first | ((with_reducible refine gate_dst (N := 3) rfl ?_); refine bx (N := 3) (cs := #[.int .i64 a1_0, .int .i64 a1_1, .int .i64 a1_2, .int .i64 a1_3, .int .i64 a1_4]) (t := 95) ?_; intro gb137 hg w4 hbox hb; have BK137 := dk (hbox); have GW137 := gs hg HB; have GE137 := gs hg HB; replace HB := hs_ HB hb; clear hb hbox hg))
 (try simp only [Act.put, List.setIfInBounds_toArray, List.set_cons_zero, List.set_cons_succ])
 go_cut [36] (fun v36 wc => ∃ (kq : Nat) (x36_2 : Bool), v36 = .bool x36_2 ∧ Aside0 (spec_GameOk.j0 kq x36_2 a1_0 a1_1 a1_2 a1_3 a1_4 = some r) ∧ Aside0 (kq ≤ k) ∧ Aside0 (wc.heap[gb137]? = some (.cells #[.int .i64 a1_0, .int .i64 a1_1, .int .i64 a1_2, .int .i64 a1_3, .int .i64 a1_4] 95 (0, 0))) ∧ Aside0 (Below w.heap.size w wc))
 case first =>
  have H := HC3.out
  clear HC3
  replace H := Option.bind_eq_some_iff.mp H
  obtain ⟨t138, A50, H⟩ := H
  try dsimp only at H
  have A5 := dk A50
  clear A50
  by_cases c6 : t138 = true
  ·subst c6
   rw [if_pos rfl] at H
   replace H := Option.bind_eq_some_iff.mp H
   obtain ⟨t139, A70, H⟩ := H
   try dsimp only at H
   have A7 := dk A70
   clear A70
   by_cases c8 : t139 = true
   ·subst c8
    rw [if_pos rfl] at H
    replace H := Option.bind_eq_some_iff.mp H
    obtain ⟨t140, A90, H⟩ := H
    try dsimp only at H
    have A9 := dk A90
    clear A90
    by_cases c10 : t140 = true
    ·subst c10
     rw [if_pos rfl] at H
     by_cases c11 : a1_0 = a1_1
     ·rw [if_pos c11] at H
      have c11b0 : (a1_0 == a1_1) = true := beq_iff_eq.mpr c11
      have c11b1 : (a1_0 != a1_1) = false := bne_eq_false_iff_eq.mpr c11
      clear c11
      (first | rw [c11b0] | rw [c11b1] | (simp only [i64_w, i32_w]; rw [c11b0]) | skip)
      have H' := dk H
      clear H
      go_wp2_with (first | ((with_reducible refine gate_callee (f := 76) rfl ?_); refine gl (some 6) Try.func76 #[.int .i64 a0, .int .i64 2, .int .i64 8] ?_; (with_reducible refine (spec_l01In.calls a0 2 8 true _ A5.out).mono ?_); rintro e w' ⟨rfl, ⟨nd, rfl⟩⟩; refine ⟨_, rfl, ?_⟩; have ⟨z12_0, z12_1, z12_2, z12_3, z12_4, v12_0, v12_1, v12_2, v12_3, v12_4⟩ := rz5 BK137) | (go_at_call 76; (with_reducible refine (spec_l01In.calls a1_0 0 (wrap64 (a0 - 1)) true _ A7.out).mono ?_); rintro e w' ⟨rfl, ⟨nd, rfl⟩⟩) | (go_at_call 76; (with_reducible refine (spec_l01In.calls a1_1 0 (wrap64 (a0 - 1)) true _ A9.out).mono ?_); rintro e w' ⟨rfl, ⟨nd, rfl⟩⟩))
      go_meet
      case rel => exact ⟨_, (true), e2_, H', ⟨by first | omega | exact Nat.le_refl _⟩, ⟨bk BK137⟩, ⟨bb HB⟩⟩
     ·rw [if_neg c11] at H
      have c11b0 : (a1_0 == a1_1) = false := beq_eq_false_iff_ne.mpr c11
      have c11b1 : (a1_0 != a1_1) = true := bne_iff_ne.mpr c11
      (first | rw [c11b0] | rw [c11b1] | (simp only [i64_w, i32_w]; rw [c11b0]) | skip)
      replace H := Option.bind_eq_some_iff.mp H
      obtain ⟨t141, A130, H⟩ := H
      try dsimp only at H
      have A13 := dk A130
      clear A130
      have H' := dk H
      clear H
      go_wp2_with (first | ((with_reducible refine gate_callee (f := 76) rfl ?_); refine gl (some 6) Try.func76 #[.int .i64 a0, .int .i64 2, .int .i64 8] ?_; (with_reducible refine (spec_l01In.calls a0 2 8 true _ A5.out).mono ?_); rintro e w' ⟨rfl, ⟨nd, rfl⟩⟩; refine ⟨_, rfl, ?_⟩; have ⟨z14_0, z14_1, z14_2, z14_3, z14_4, v14_0, v14_1, v14_2, v14_3, v14_4⟩ := rz5 BK137) | (go_at_call 76; (with_reducible refine (spec_l01In.calls a1_0 0 (wrap64 (a0 - 1)) true _ A7.out).mono ?_); rintro e w' ⟨rfl, ⟨nd, rfl⟩⟩) | (go_at_call 76; (with_reducible refine (spec_l01In.calls a1_1 0 (wrap64 (a0 - 1)) true _ A9.out).mono ?_); rintro e w' ⟨rfl, ⟨nd, rfl⟩⟩) | (go_at_call 76; (with_reducible refine (spec_l01In.calls a1_4 0 4 t141 _ A13.out).mono ?_); rintro e w' ⟨rfl, ⟨nd, rfl⟩⟩))
      go_meet
      case rel => exact ⟨_, (!t141), e2_, H', ⟨by first | omega | exact Nat.le_refl _⟩, ⟨bk BK137⟩, ⟨bb HB⟩⟩
    ·replace c10 := Bool.eq_false_iff.mpr c10
     subst c10
     rw [if_neg (show ¬ (false = true) by decide)] at H
     have H' := dk H
     clear H
     go_wp2_with (first | ((with_reducible refine gate_callee (f := 76) rfl ?_); refine gl (some 6) Try.func76 #[.int .i64 a0, .int .i64 2, .int .i64 8] ?_; (with_reducible refine (spec_l01In.calls a0 2 8 true _ A5.out).mono ?_); rintro e w' ⟨rfl, ⟨nd, rfl⟩⟩; refine ⟨_, rfl, ?_⟩; have ⟨z15_0, z15_1, z15_2, z15_3, z15_4, v15_0, v15_1, v15_2, v15_3, v15_4⟩ := rz5 BK137) | (go_at_call 76; (with_reducible refine (spec_l01In.calls a1_0 0 (wrap64 (a0 - 1)) true _ A7.out).mono ?_); rintro e w' ⟨rfl, ⟨nd, rfl⟩⟩) | (go_at_call 76; (with_reducible refine (spec_l01In.calls a1_1 0 (wrap64 (a0 - 1)) false _ A9.out).mono ?_); rintro e w' ⟨rfl, ⟨nd, rfl⟩⟩))
     go_meet
     case rel => exact ⟨_, (true), e2_, H', ⟨by first | omega | exact Nat.le_refl _⟩, ⟨bk BK137⟩, ⟨bb HB⟩⟩
   ·replace c8 := Bool.eq_false_iff.mpr c8
    subst c8
    rw [if_neg (show ¬ (false = true) by decide)] at H
    have H' := dk H
    clear H
    go_wp2_with (first | ((with_reducible refine gate_callee (f := 76) rfl ?_); refine gl (some 6) Try.func76 #[.int .i64 a0, .int .i64 2, .int .i64 8] ?_; (with_reducible refine (spec_l01In.calls a0 2 8 true _ A5.out).mono ?_); rintro e w' ⟨rfl, ⟨nd, rfl⟩⟩; refine ⟨_, rfl, ?_⟩; have ⟨z16_0, z16_1, z16_2, z16_3, z16_4, v16_0, v16_1, v16_2, v16_3, v16_4⟩ := rz5 BK137) | (go_at_call 76; (with_reducible refine (spec_l01In.calls a1_0 0 (wrap64 (a0 - 1)) false _ A7.out).mono ?_); rintro e w' ⟨rfl, ⟨nd, rfl⟩⟩))
    go_meet
    case rel => exact ⟨_, (true), e2_, H', ⟨by first | omega | exact Nat.le_refl _⟩, ⟨bk BK137⟩, ⟨bb HB⟩⟩
  ·replace c6 := Bool.eq_false_iff.mpr c6
   subst c6
   rw [if_neg (show ¬ (false = true) by decide)] at H
   have H' := dk H
   clear H
   go_wp2_with (first | ((with_reducible refine gate_callee (f := 76) rfl ?_); refine gl (some 6) Try.func76 #[.int .i64 a0, .int .i64 2, .int .i64 8] ?_; (with_reducible refine (spec_l01In.calls a0 2 8 false _ A5.out).mono ?_); rintro e w' ⟨rfl, ⟨nd, rfl⟩⟩; refine ⟨_, rfl, ?_⟩))
   go_meet
   case rel => exact ⟨_, (true), e2_, H', ⟨by first | omega | exact Nat.le_refl _⟩, ⟨bk BK137⟩, ⟨bb HB⟩⟩
 case rest =>
  clear HC3
  (try clear c1)
  (try clear p2)
  (try clear c6)
  (try clear p6)
  (try clear c7)
  (try clear c8)
  (try clear c10)
  (try clear c11)
  (try clear c11b0)
  (try clear c11b1)
  (try clear c15)
  (try clear z12_0 z12_1 z12_2 z12_3 z12_4)
  (try clear z14_0 z14_1 z14_2 z14_3 z14_4)
  (try clear z15_0 z15_1 z15_2 z15_3 z15_4)
  (try clear z16_0 z16_1 z16_2 z16_3 z16_4)
  (try clear v12_0 v12_1 v12_2 v12_3 v12_4)
  (try clear v14_0 v14_1 v14_2 v14_3 v14_4)
  (try clear v15_0 v15_1 v15_2 v15_3 v15_4)
  (try clear v16_0 v16_1 v16_2 v16_3 v16_4)
  obtain ⟨kq, x36_2, rfl, HA, HJ2, BK137, HB⟩ := hcut
  cases kq with
  | zero => exact absurd HA.out (by simp [spec_GameOk.j0])
  | succ kj2 =>
   have H := HA.out
   clear HA
   simp only [spec_GameOk.j0] at H
   by_cases c17 : x36_2 = true
   ·subst c17
    rw [if_pos rfl] at H
    obtain rfl := Option.some.inj H
    go_wp2
    go_ret
    exact ⟨ee, bb HB⟩
   ·replace c17 := Bool.eq_false_iff.mpr c17
    subst c17
    rw [if_neg (show ¬ (false = true) by decide)] at H
    by_cases c18 : a1_4 = 1
    ·rw [if_pos c18] at H
     have c18b0 : (a1_4 == 1) = true := beq_iff_eq.mpr c18
     have c18b1 : (a1_4 != 1) = false := bne_eq_false_iff_eq.mpr c18
     clear c18
     replace H := Option.bind_eq_some_iff.mp H
     obtain ⟨t142, A190, H⟩ := H
     try dsimp only at H
     have A19 := dk A190
     clear A190
     by_cases c20 : t142 = true
     ·subst c20
      rw [if_pos rfl] at H
      replace H := Option.bind_eq_some_iff.mp H
      obtain ⟨t143, A210, H⟩ := H
      try dsimp only at H
      have A21 := dk A210
      clear A210
      obtain rfl := Option.some.inj H
      have ⟨z22_0, z22_1, z22_2, z22_3, z22_4, v22_0, v22_1, v22_2, v22_3, v22_4⟩ := rz5 BK137
      go_wp2_with (first | ((with_reducible refine gate_callee (f := 76) rfl ?_); refine gl (some 50) Try.func76 #[.int .i64 a1_2, .int .i64 0, .int .i64 99] ?_; (with_reducible refine (spec_l01In.calls a1_2 0 99 true _ A19.out).mono ?_); rintro e w' ⟨rfl, ⟨nd, rfl⟩⟩; refine ⟨_, rfl, ?_⟩) | (go_at_call 76; (with_reducible refine (spec_l01In.calls a1_3 0 99 t143 _ A21.out).mono ?_); rintro e w' ⟨rfl, ⟨nd, rfl⟩⟩))
      go_ret
      exact ⟨ee, bb HB⟩
     ·replace c20 := Bool.eq_false_iff.mpr c20
      subst c20
      rw [if_neg (show ¬ (false = true) by decide)] at H
      obtain rfl := Option.some.inj H
      have ⟨z23_0, z23_1, z23_2, z23_3, z23_4, v23_0, v23_1, v23_2, v23_3, v23_4⟩ := rz5 BK137
      go_wp2_with (first | ((with_reducible refine gate_callee (f := 76) rfl ?_); refine gl (some 50) Try.func76 #[.int .i64 a1_2, .int .i64 0, .int .i64 99] ?_; (with_reducible refine (spec_l01In.calls a1_2 0 99 false _ A19.out).mono ?_); rintro e w' ⟨rfl, ⟨nd, rfl⟩⟩; refine ⟨_, rfl, ?_⟩))
      go_ret
      exact ⟨ee, bb HB⟩
    ·rw [if_neg c18] at H
     have c18b0 : (a1_4 == 1) = false := beq_eq_false_iff_ne.mpr c18
     have c18b1 : (a1_4 != 1) = true := bne_iff_ne.mpr c18
     by_cases c24 : a1_2 = 0
     ·rw [if_pos c24] at H
      have c24b0 : (a1_2 == 0) = true := beq_iff_eq.mpr c24
      have c24b1 : (a1_2 != 0) = false := bne_eq_false_iff_eq.mpr c24
      clear c24
      obtain rfl := Option.some.inj H
      have ⟨z25_0, z25_1, z25_2, z25_3, z25_4, v25_0, v25_1, v25_2, v25_3, v25_4⟩ := rz5 BK137
      go_wp2
      go_ret
      exact ⟨ee, bb HB⟩
     ·rw [if_neg c24] at H
      have c24b0 : (a1_2 == 0) = false := beq_eq_false_iff_ne.mpr c24
      have c24b1 : (a1_2 != 0) = true := bne_iff_ne.mpr c24
      obtain rfl := Option.some.inj H
      have ⟨z26_0, z26_1, z26_2, z26_3, z26_4, v26_0, v26_1, v26_2, v26_3, v26_4⟩ := rz5 BK137
      go_wp2
      go_ret
      exact ⟨ee, bb HB⟩
def spec_GameOf.l0 : Nat → Int → Int → List (S95) → Int → Int → Option (Int)
 | 0, _, _, _, _, _ => none
 | k + 1, x1, x2, x9, x10, x11 => if x11 < x10 then (if 0 ≤ x11 then (if x11 < (x9.length : Int) then (if ((rd_T95 x9 x11).f0) = x1 then (if ((rd_T95 x9 x11).f1) = x2 then (some x11) else (spec_GameOf.l0 k x1 x2 x9 x10 (wrap64 (x11 + 1)))) else (spec_GameOf.l0 k x1 x2 x9 x10 (wrap64 (x11 + 1)))) else (none)) else (none)) else (some (-1))
def spec_GameOf.f (k : Nat) (l0 : List (S95)) (a1 : Int) (a2 : Int) : Option (Int) := spec_GameOf.l0 k a1 a2 l0 (l0.length : Int) 0
theorem spec_GameOf.calls (k : Nat) (A0 : Option Addr) (c0 : Nat) (l0 : List (S95)) (a1 : Int) (a2 : Int) (r : Int) (w : World) (hr0 : Kd.C k95 w A0 l0.length l0) (hc0 : l0.length ≤ c0) (h : spec_GameOf.f k l0 a1 a2 = some r) :
  Calls Try.prog 159 #[.slice A0 l0.length c0, .int .i64 a1, .int .i64 a2] w fun e w' => e = .returned (.int .i64 r) ∧ Below w.heap.size w w' := by
 have hu95 := Try.underlying95
 have HR0 := dk hr0
 have HC0 := dk hc0
 clear hr0 hc0
 have HB := dk (Below.refl w.heap.size w)
 have H : (spec_GameOf.l0 k a1 a2 l0 (l0.length : Int) 0) = some r := h
 clear h
 have H' := dk H
 clear H
 go_enter Try.func159, Try.ntmps159
 go_wp2
 go_loopg [11] k (fun kq v11 w' => ∃ (x11_1 : Int), v11 = .int .i64 x11_1 ∧ Aside0 (spec_GameOf.l0 kq a1 a2 l0 (l0.length : Int) x11_1 = some r) ∧ Aside0 (kq ≤ k) ∧ Aside0 (Below w.heap.size w w'))
 case atStart => exact ⟨(0), e2_, H', ⟨Nat.le_refl _⟩, ⟨bb HB⟩⟩
 case round =>
  clear H'
  (try clear c1)
  (try clear p2)
  obtain ⟨x11_1, rfl, HA, HK1, HB⟩ := hrel
  cases gk with
  | zero => exact absurd HA.out (by simp [spec_GameOf.l0])
  | succ k1 =>
   have H := HA.out
   clear HA
   simp only [spec_GameOf.l0] at H
   by_cases c4 : x11_1 < (l0.length : Int)
   ·rw [if_pos c4] at H
    have c4b0 : decide (x11_1 < (l0.length : Int)) = true := decide_eq_true c4
    clear c4
    by_cases c5 : 0 ≤ x11_1
    ·rw [if_pos c5] at H
     have c5b0 : decide (0 ≤ x11_1) = true := decide_eq_true c5
     clear c5
     by_cases c6 : x11_1 < (l0.length : Int)
     ·rw [if_pos c6] at H
      have c6b0 : decide (x11_1 < (l0.length : Int)) = true := decide_eq_true c6
      clear c6
      by_cases c7 : ((rd_T95 l0 x11_1).f0) = a1
      ·rw [if_pos c7] at H
       have c7b0 : (((rd_T95 l0 x11_1).f0) == a1) = true := beq_iff_eq.mpr c7
       have c7b1 : (((rd_T95 l0 x11_1).f0) != a1) = false := bne_eq_false_iff_eq.mpr c7
       clear c7
       by_cases c8 : ((rd_T95 l0 x11_1).f1) = a2
       ·rw [if_pos c8] at H
        have c8b0 : (((rd_T95 l0 x11_1).f1) == a2) = true := beq_iff_eq.mpr c8
        have c8b1 : (((rd_T95 l0 x11_1).f1) != a2) = false := bne_eq_false_iff_eq.mpr c8
        clear c8
        obtain rfl := Option.some.inj H
        have p144 : 0 ≤ (x11_1 : Int) := oa
        have q144 : x11_1 < (l0.length : Int) := oa
        obtain ⟨ad144, e144, hx144_0, hx144_1, hx144_2, hx144_3, hx144_4⟩ := at_T95 HR0.out x11_1 p144 q144
        cases e144
        replace hx144_0 := hc HB hx144_0
        replace hx144_1 := hc HB hx144_1
        replace hx144_2 := hc HB hx144_2
        replace hx144_3 := hc HB hx144_3
        replace hx144_4 := hc HB hx144_4
        replace p144 := eq_true p144
        replace q144 := eq_true q144
        go_wp2_with (first | ((with_reducible refine gate_dst (N := 8) rfl ?_); refine bx (N := 8) (cs := #[.int .i64 0, .int .i64 0, .int .i64 0, .int .i64 0, .int .i64 0]) (t := 95) ?_; intro gb145 hg w9 hbox hb; have BK145 := dk (hbox); have GW145 := gs hg HB; have GE145 := gs hg HB; replace HB := hs_ HB hb; clear hb hbox hg; have ⟨z10_0, z10_1, z10_2, z10_3, z10_4, v10_0, v10_1, v10_2, v10_3, v10_4⟩ := rz5 BK145))
        go_ret
        exact ⟨ee, bb HB⟩
       ·rw [if_neg c8] at H
        have c8b0 : (((rd_T95 l0 x11_1).f1) == a2) = false := beq_eq_false_iff_ne.mpr c8
        have c8b1 : (((rd_T95 l0 x11_1).f1) != a2) = true := bne_iff_ne.mpr c8
        have H' := dk H
        clear H
        have p144 : 0 ≤ (x11_1 : Int) := oa
        have q144 : x11_1 < (l0.length : Int) := oa
        obtain ⟨ad144, e144, hx144_0, hx144_1, hx144_2, hx144_3, hx144_4⟩ := at_T95 HR0.out x11_1 p144 q144
        cases e144
        replace hx144_0 := hc HB hx144_0
        replace hx144_1 := hc HB hx144_1
        replace hx144_2 := hc HB hx144_2
        replace hx144_3 := hc HB hx144_3
        replace hx144_4 := hc HB hx144_4
        replace p144 := eq_true p144
        replace q144 := eq_true q144
        go_wp2_with (first | ((with_reducible refine gate_dst (N := 8) rfl ?_); refine bx (N := 8) (cs := #[.int .i64 0, .int .i64 0, .int .i64 0, .int .i64 0, .int .i64 0]) (t := 95) ?_; intro gb145 hg w11 hbox hb; have BK145 := dk (hbox); have GW145 := gs hg HB; have GE145 := gs hg HB; replace HB := hs_ HB hb; clear hb hbox hg; have ⟨z12_0, z12_1, z12_2, z12_3, z12_4, v12_0, v12_1, v12_2, v12_3, v12_4⟩ := rz5 BK145))
        go_roundg k1
        case measure => have := HK1.out; omega
        case rel => exact ⟨(wrap64 (x11_1 + 1)), e2_, H', ⟨by have := HK1.out; omega⟩, ⟨bb HB⟩⟩
      ·rw [if_neg c7] at H
       have c7b0 : (((rd_T95 l0 x11_1).f0) == a1) = false := beq_eq_false_iff_ne.mpr c7
       have c7b1 : (((rd_T95 l0 x11_1).f0) != a1) = true := bne_iff_ne.mpr c7
       have H' := dk H
       clear H
       have p144 : 0 ≤ (x11_1 : Int) := oa
       have q144 : x11_1 < (l0.length : Int) := oa
       obtain ⟨ad144, e144, hx144_0, hx144_1, hx144_2, hx144_3, hx144_4⟩ := at_T95 HR0.out x11_1 p144 q144
       cases e144
       replace hx144_0 := hc HB hx144_0
       replace hx144_1 := hc HB hx144_1
       replace hx144_2 := hc HB hx144_2
       replace hx144_3 := hc HB hx144_3
       replace hx144_4 := hc HB hx144_4
       replace p144 := eq_true p144
       replace q144 := eq_true q144
       go_wp2_with (first | ((with_reducible refine gate_dst (N := 8) rfl ?_); refine bx (N := 8) (cs := #[.int .i64 0, .int .i64 0, .int .i64 0, .int .i64 0, .int .i64 0]) (t := 95) ?_; intro gb145 hg w13 hbox hb; have BK145 := dk (hbox); have GW145 := gs hg HB; have GE145 := gs hg HB; replace HB := hs_ HB hb; clear hb hbox hg; have ⟨z14_0, z14_1, z14_2, z14_3, z14_4, v14_0, v14_1, v14_2, v14_3, v14_4⟩ := rz5 BK145))
       go_roundg k1
       case measure => have := HK1.out; omega
       case rel => exact ⟨(wrap64 (x11_1 + 1)), e2_, H', ⟨by have := HK1.out; omega⟩, ⟨bb HB⟩⟩
     ·rw [if_neg c6] at H
      exact absurd H (by simp)
    ·rw [if_neg c5] at H
     exact absurd H (by simp)
   ·rw [if_neg c4] at H
    have c4b0 : decide (x11_1 < (l0.length : Int)) = false := decide_eq_false c4
    clear c4
    obtain rfl := Option.some.inj H
    go_wp2
    go_ret
    exact ⟨ee, bb HB⟩
def spec_SeasonOk.l0 : Nat → Int → List (S95) → List (S95) → Int → Int → Option (Bool)
 | 0, _, _, _, _, _ => none
 | k + 1, x0, x1, x10, x11, x12 => if x12 < x11 then (if 0 ≤ x12 then (if x12 < (x10.length : Int) then ((spec_GameOk.f k x0 ((rd_T95 x10 x12).f0) ((rd_T95 x10 x12).f1) ((rd_T95 x10 x12).f2) ((rd_T95 x10 x12).f3) ((rd_T95 x10 x12).f4)).bind fun t148 => (if t148 = true then ((spec_GameOf.f k x1 ((rd_T95 x10 x12).f0) ((rd_T95 x10 x12).f1)).bind fun t149 => (if t149 = x12 then (spec_SeasonOk.l0 k x0 x1 x10 x11 (wrap64 (x12 + 1))) else (some false))) else (some false))) else (none)) else (none)) else (some true)
def spec_SeasonOk.f (k : Nat) (a0 : Int) (l1 : List (S95)) : Option (Bool) := if (l1.length : Int) > 60 then (some false) else (spec_SeasonOk.l0 k a0 l1 l1 (l1.length : Int) 0)
theorem spec_SeasonOk.calls (k : Nat) (a0 : Int) (A1 : Option Addr) (c1 : Nat) (l1 : List (S95)) (r : Bool) (w : World) (hr1 : Kd.C k95 w A1 l1.length l1) (hc1 : l1.length ≤ c1) (h : spec_SeasonOk.f k a0 l1 = some r) :
  Calls Try.prog 120 #[.int .i64 a0, .slice A1 l1.length c1] w fun e w' => e = .returned (.bool r) ∧ Below w.heap.size w w' := by
 have hu95 := Try.underlying95
 have HR1 := dk hr1
 have HC1 := dk hc1
 clear hr1 hc1
 have HB := dk (Below.refl w.heap.size w)
 have H : (if (l1.length : Int) > 60 then (some false) else (spec_SeasonOk.l0 k a0 l1 l1 (l1.length : Int) 0)) = some r := h
 clear h
 by_cases c3 : (l1.length : Int) > 60
 ·rw [if_pos c3] at H
  have c3b0 : decide (60 < (l1.length : Int)) = true := decide_eq_true c3
  have c3b1 : decide (60 < l1.length) = true := decide_eq_true (by omega)
  clear c3
  obtain rfl := Option.some.inj H
  go_enter Try.func120, Try.ntmps120
  go_wp2
  go_ret
  exact ⟨ee, bb HB⟩
 ·rw [if_neg c3] at H
  have c3b0 : decide (60 < (l1.length : Int)) = false := decide_eq_false c3
  have c3b1 : decide (60 < l1.length) = false := decide_eq_false (by omega)
  clear c3
  have H' := dk H
  clear H
  go_enter Try.func120, Try.ntmps120
  go_wp2
  go_loopg [12] k (fun kq v12 w' => ∃ (x12_1 : Int), v12 = .int .i64 x12_1 ∧ Aside0 (spec_SeasonOk.l0 kq a0 l1 l1 (l1.length : Int) x12_1 = some r) ∧ Aside0 (kq ≤ k) ∧ Aside0 (Below w.heap.size w w'))
  case atStart => exact ⟨(0), e2_, H', ⟨Nat.le_refl _⟩, ⟨bb HB⟩⟩
  case round =>
   clear H'
   (try clear c1)
   (try clear p2)
   (try clear c3)
   (try clear c3b0)
   (try clear c3b1)
   obtain ⟨x12_1, rfl, HA, HK1, HB⟩ := hrel
   cases gk with
   | zero => exact absurd HA.out (by simp [spec_SeasonOk.l0])
   | succ k1 =>
    have H := HA.out
    clear HA
    simp only [spec_SeasonOk.l0] at H
    by_cases c4 : x12_1 < (l1.length : Int)
    ·rw [if_pos c4] at H
     have c4b0 : decide (x12_1 < (l1.length : Int)) = true := decide_eq_true c4
     clear c4
     by_cases c5 : 0 ≤ x12_1
     ·rw [if_pos c5] at H
      have c5b0 : decide (0 ≤ x12_1) = true := decide_eq_true c5
      clear c5
      by_cases c6 : x12_1 < (l1.length : Int)
      ·rw [if_pos c6] at H
       have c6b0 : decide (x12_1 < (l1.length : Int)) = true := decide_eq_true c6
       clear c6
       replace H := Option.bind_eq_some_iff.mp H
       obtain ⟨t148, A70, H⟩ := H
       try dsimp only at H
       have A7 := dk A70
       clear A70
       by_cases c8 : t148 = true
       ·subst c8
        rw [if_pos rfl] at H
        replace H := Option.bind_eq_some_iff.mp H
        obtain ⟨t149, A90, H⟩ := H
        try dsimp only at H
        have A9 := dk A90
        clear A90
        by_cases c10 : t149 = x12_1
        ·rw [if_pos c10] at H
         have c10b0 : (t149 == x12_1) = true := beq_iff_eq.mpr c10
         have c10b1 : (t149 != x12_1) = false := bne_eq_false_iff_eq.mpr c10
         clear c10
         have H' := dk H
         clear H
         have p146 : 0 ≤ (x12_1 : Int) := oa
         have q146 : x12_1 < (l1.length : Int) := oa
         obtain ⟨ad146, e146, hx146_0, hx146_1, hx146_2, hx146_3, hx146_4⟩ := at_T95 HR1.out x12_1 p146 q146
         cases e146
         replace hx146_0 := hc HB hx146_0
         replace hx146_1 := hc HB hx146_1
         replace hx146_2 := hc HB hx146_2
         replace hx146_3 := hc HB hx146_3
         replace hx146_4 := hc HB hx146_4
         replace p146 := eq_true p146
         replace q146 := eq_true q146
         go_wp2_with (first | ((with_reducible refine gate_dst (N := 6) rfl ?_); refine bx (N := 6) (cs := #[.int .i64 0, .int .i64 0, .int .i64 0, .int .i64 0, .int .i64 0]) (t := 95) ?_; intro gb147 hg w11 hbox hb; have BK147 := dk (hbox); have GW147 := gs hg HB; have GE147 := gs hg HB; replace HB := hs_ HB hb; clear hb hbox hg; have ⟨z12_0, z12_1, z12_2, z12_3, z12_4, v12_0, v12_1, v12_2, v12_3, v12_4⟩ := rz5 BK147) | ((with_reducible refine gate_callee (f := 158) rfl ?_); refine gl (some 19) Try.func158 #[.int .i64 a0, .agg #[.int .i64 ((rd_T95 l1 x12_1).f0), .int .i64 ((rd_T95 l1 x12_1).f1), .int .i64 ((rd_T95 l1 x12_1).f2), .int .i64 ((rd_T95 l1 x12_1).f3), .int .i64 ((rd_T95 l1 x12_1).f4)]] ?_; (with_reducible refine (spec_GameOk.calls k1 a0 ((rd_T95 l1 x12_1).f0) ((rd_T95 l1 x12_1).f1) ((rd_T95 l1 x12_1).f2) ((rd_T95 l1 x12_1).f3) ((rd_T95 l1 x12_1).f4) true _ A7.out).mono ?_); rintro e w13 ⟨rfl, hb⟩; refine ⟨_, rfl, ?_⟩; replace BK147 := dk (blk_below (g := gb147) (o := .cells #[.int .i64 ((rd_T95 l1 x12_1).f0), .int .i64 ((rd_T95 l1 x12_1).f1), .int .i64 ((rd_T95 l1 x12_1).f2), .int .i64 ((rd_T95 l1 x12_1).f3), .int .i64 ((rd_T95 l1 x12_1).f4)] 95 (0, 0)) (bp BK147) hb); replace HB := hs_ HB hb; (try clear hb hb2 hk hi); have ⟨z14_0, z14_1, z14_2, z14_3, z14_4, v14_0, v14_1, v14_2, v14_3, v14_4⟩ := rz5 BK147) | (go_at_call 159; (with_reducible refine (spec_GameOf.calls k1 _ _ l1 ((rd_T95 l1 x12_1).f0) ((rd_T95 l1 x12_1).f1) t149 _ ?side1 ?side2 A9.out).mono ?_); (case side1 => exact cc HR1 HB); (case side2 => exact HC1.out); rintro e w15 ⟨rfl, hb⟩; replace BK147 := kb BK147 hb; replace HB := hs_ HB hb; (try clear hb hb2 hk hi)))
         go_roundg k1
         case measure => have := HK1.out; omega
         case rel => exact ⟨(wrap64 (x12_1 + 1)), e2_, H', ⟨by have := HK1.out; omega⟩, ⟨bb HB⟩⟩
        ·rw [if_neg c10] at H
         have c10b0 : (t149 == x12_1) = false := beq_eq_false_iff_ne.mpr c10
         have c10b1 : (t149 != x12_1) = true := bne_iff_ne.mpr c10
         obtain rfl := Option.some.inj H
         have p146 : 0 ≤ (x12_1 : Int) := oa
         have q146 : x12_1 < (l1.length : Int) := oa
         obtain ⟨ad146, e146, hx146_0, hx146_1, hx146_2, hx146_3, hx146_4⟩ := at_T95 HR1.out x12_1 p146 q146
         cases e146
         replace hx146_0 := hc HB hx146_0
         replace hx146_1 := hc HB hx146_1
         replace hx146_2 := hc HB hx146_2
         replace hx146_3 := hc HB hx146_3
         replace hx146_4 := hc HB hx146_4
         replace p146 := eq_true p146
         replace q146 := eq_true q146
         go_wp2_with (first | ((with_reducible refine gate_dst (N := 6) rfl ?_); refine bx (N := 6) (cs := #[.int .i64 0, .int .i64 0, .int .i64 0, .int .i64 0, .int .i64 0]) (t := 95) ?_; intro gb147 hg w16 hbox hb; have BK147 := dk (hbox); have GW147 := gs hg HB; have GE147 := gs hg HB; replace HB := hs_ HB hb; clear hb hbox hg; have ⟨z17_0, z17_1, z17_2, z17_3, z17_4, v17_0, v17_1, v17_2, v17_3, v17_4⟩ := rz5 BK147) | ((with_reducible refine gate_callee (f := 158) rfl ?_); refine gl (some 19) Try.func158 #[.int .i64 a0, .agg #[.int .i64 ((rd_T95 l1 x12_1).f0), .int .i64 ((rd_T95 l1 x12_1).f1), .int .i64 ((rd_T95 l1 x12_1).f2), .int .i64 ((rd_T95 l1 x12_1).f3), .int .i64 ((rd_T95 l1 x12_1).f4)]] ?_; (with_reducible refine (spec_GameOk.calls k1 a0 ((rd_T95 l1 x12_1).f0) ((rd_T95 l1 x12_1).f1) ((rd_T95 l1 x12_1).f2) ((rd_T95 l1 x12_1).f3) ((rd_T95 l1 x12_1).f4) true _ A7.out).mono ?_); rintro e w18 ⟨rfl, hb⟩; refine ⟨_, rfl, ?_⟩; replace BK147 := dk (blk_below (g := gb147) (o := .cells #[.int .i64 ((rd_T95 l1 x12_1).f0), .int .i64 ((rd_T95 l1 x12_1).f1), .int .i64 ((rd_T95 l1 x12_1).f2), .int .i64 ((rd_T95 l1 x12_1).f3), .int .i64 ((rd_T95 l1 x12_1).f4)] 95 (0, 0)) (bp BK147) hb); replace HB := hs_ HB hb; (try clear hb hb2 hk hi); have ⟨z19_0, z19_1, z19_2, z19_3, z19_4, v19_0, v19_1, v19_2, v19_3, v19_4⟩ := rz5 BK147) | (go_at_call 159; (with_reducible refine (spec_GameOf.calls k1 _ _ l1 ((rd_T95 l1 x12_1).f0) ((rd_T95 l1 x12_1).f1) t149 _ ?side1 ?side2 A9.out).mono ?_); (case side1 => exact cc HR1 HB); (case side2 => exact HC1.out); rintro e w20 ⟨rfl, hb⟩; replace BK147 := kb BK147 hb; replace HB := hs_ HB hb; (try clear hb hb2 hk hi)))
         go_ret
         exact ⟨ee, bb HB⟩
       ·replace c8 := Bool.eq_false_iff.mpr c8
        subst c8
        rw [if_neg (show ¬ (false = true) by decide)] at H
        obtain rfl := Option.some.inj H
        have p146 : 0 ≤ (x12_1 : Int) := oa
        have q146 : x12_1 < (l1.length : Int) := oa
        obtain ⟨ad146, e146, hx146_0, hx146_1, hx146_2, hx146_3, hx146_4⟩ := at_T95 HR1.out x12_1 p146 q146
        cases e146
        replace hx146_0 := hc HB hx146_0
        replace hx146_1 := hc HB hx146_1
        replace hx146_2 := hc HB hx146_2
        replace hx146_3 := hc HB hx146_3
        replace hx146_4 := hc HB hx146_4
        replace p146 := eq_true p146
        replace q146 := eq_true q146
        go_wp2_with (first | ((with_reducible refine gate_dst (N := 6) rfl ?_); refine bx (N := 6) (cs := #[.int .i64 0, .int .i64 0, .int .i64 0, .int .i64 0, .int .i64 0]) (t := 95) ?_; intro gb147 hg w21 hbox hb; have BK147 := dk (hbox); have GW147 := gs hg HB; have GE147 := gs hg HB; replace HB := hs_ HB hb; clear hb hbox hg; have ⟨z22_0, z22_1, z22_2, z22_3, z22_4, v22_0, v22_1, v22_2, v22_3, v22_4⟩ := rz5 BK147) | ((with_reducible refine gate_callee (f := 158) rfl ?_); refine gl (some 19) Try.func158 #[.int .i64 a0, .agg #[.int .i64 ((rd_T95 l1 x12_1).f0), .int .i64 ((rd_T95 l1 x12_1).f1), .int .i64 ((rd_T95 l1 x12_1).f2), .int .i64 ((rd_T95 l1 x12_1).f3), .int .i64 ((rd_T95 l1 x12_1).f4)]] ?_; (with_reducible refine (spec_GameOk.calls k1 a0 ((rd_T95 l1 x12_1).f0) ((rd_T95 l1 x12_1).f1) ((rd_T95 l1 x12_1).f2) ((rd_T95 l1 x12_1).f3) ((rd_T95 l1 x12_1).f4) false _ A7.out).mono ?_); rintro e w23 ⟨rfl, hb⟩; refine ⟨_, rfl, ?_⟩; replace BK147 := dk (blk_below (g := gb147) (o := .cells #[.int .i64 ((rd_T95 l1 x12_1).f0), .int .i64 ((rd_T95 l1 x12_1).f1), .int .i64 ((rd_T95 l1 x12_1).f2), .int .i64 ((rd_T95 l1 x12_1).f3), .int .i64 ((rd_T95 l1 x12_1).f4)] 95 (0, 0)) (bp BK147) hb); replace HB := hs_ HB hb; (try clear hb hb2 hk hi)))
        go_ret
        exact ⟨ee, bb HB⟩
      ·rw [if_neg c6] at H
       exact absurd H (by simp)
     ·rw [if_neg c5] at H
      exact absurd H (by simp)
    ·rw [if_neg c4] at H
     have c4b0 : decide (x12_1 < (l1.length : Int)) = false := decide_eq_false c4
     clear c4
     obtain rfl := Option.some.inj H
     go_wp2
     go_ret
     exact ⟨ee, bb HB⟩
end Go.Proofs.Ythfefanapneocaa.Q
